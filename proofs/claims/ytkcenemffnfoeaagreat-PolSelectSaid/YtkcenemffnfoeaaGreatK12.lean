/- Our own library, part 12: an abstract machine, sound for the model, and what the functions do over it. No condition. -/
import Derived.Test.YtkcenemffnfoeaaGreatK01
set_option maxHeartbeats 8000000
set_option linter.all false
set_option maxRecDepth 100000
namespace Am.Sigs
open Am Go
abbrev mV (i d x:Nat):Ins := .mk4 i (some d) (.mv (.t x)) none
abbrev mC (i d:Nat) (v:V):Ins := .mk4 i (some d) (.mv (.c v)) none
abbrev fA (i d k x:Nat):Ins := .mk4 i (some d) (.faddr k (.t x)) none
abbrev lD (i d x:Nat):Ins := .mk4 i (some d) (.load1 (.t x)) none
abbrev nC (i d x:Nat):Ins := .mk4 i (some d) (.nilck (.t x)) none
abbrev eX (i d x k:Nat):Ins := .mk4 i (some d) (.extract (.t x) k) none
abbrev sT (i n a x:Nat):Ins := .mk4 i none (.store n (.t a) (.t x)) none
abbrev gG (i d:Nat) (x:I) (g:Nat) (b:Bool):Ins := .mk4 i (some d) x (some (g,b))
abbrev qQ (i d:Nat) (x:I):Ins := .mk4 i (some d) x none
abbrev bB (i d:Nat) (o:BinOp) (a b:Nat):Ins := .mk4 i (some d) (.bin o (.t a) (.t b)) none
abbrev bC (i d:Nat) (o:BinOp) (a:Nat) (v:V):Ins := .mk4 i (some d) (.bin o (.t a) (.c v)) none
abbrev pT (i d a b:Nat) (v:V):Ins := .mk4 i (some d) (.pick (.t a) (.t b) (.c v)) none
abbrev pC (i d a:Nat) (v:V) (b:Nat):Ins := .mk4 i (some d) (.pick (.t a) (.c v) (.t b)) none
abbrev aA (i d f a:Nat):Ins := .mk4 i (some d) (.call f [.t a]) none
abbrev aB (i d f a b:Nat):Ins := .mk4 i (some d) (.call f [.t a,.t b]) none
abbrev aC (i d f a b c:Nat):Ins := .mk4 i (some d) (.call f [.t a,.t b,.t c]) none
abbrev gM (i d x g:Nat) (b:Bool):Ins := .mk4 i (some d) (.mv (.t x)) (some (g,b))
abbrev gL (i d x g:Nat) (b:Bool):Ins := .mk4 i (some d) (.load1 (.t x)) (some (g,b))
abbrev gF (i d k x g:Nat) (b:Bool):Ins := .mk4 i (some d) (.faddr k (.t x)) (some (g,b))
abbrev iA (i d n s a b:Nat):Ins := .mk4 i (some d) (.ixaA n s (.t a) (.t b)) none
abbrev iS (i d s a b:Nat):Ins := .mk4 i (some d) (.ixaS s (.t a) (.t b)) none
abbrev lN (i d n a:Nat):Ins := .mk4 i (some d) (.loadN n (.t a)) none
abbrev lL (i d a:Nat):Ins := .mk4 i (some d) (.lenL (.t a)) none
def c3_0:AC :=
 .seq (.region 0 [mV 0 213 25,fA 1 214 1 16,lD 2 215 214,qQ 3 216 (.eq .bool true (.t 213) (.t 215)),mV 4 217 216,gM 5 218 18 217 false,gG 6 219 (.bin .eql (.t 218) (.c (.i 113))) 217 false,gM 7 220 219 217 false,gF 8 221 2 16 220 true,gL 9 222 221 220 true,gG 10 223 (.pick (.t 220) (.t 222) (.c (.bool false))) 217 false,pC 11 224 217 (.bool true) 223,mV 12 225 224,gM 13 226 18 225 false,gG 14 227 (.bin .eql (.t 226) (.c (.i 0))) 225 false,gM 15 228 227 225 false,gF 16 229 2 16 228 true,gL 17 230 229 228 true,gG 18 231 (.un .not (.t 230)) 228 true,gG 19 232 (.pick (.t 228) (.t 231) (.c (.bool false))) 225 false,pC 20 233 225 (.bool true) 232] [3,4,157,158,159,233]) (.cond (.t 233) (.seq (.region 0 [mC 0 2 (.bool false)] [2]) (.ret)) (.skip))
def c3_1:AC :=
 .seq (.region 0 [mV 0 199 21,bC 1 200 .eql 199 (.i 0),mV 2 201 200,gM 3 202 21 201 false,gG 4 203 (.bin .eql (.t 202) (.c (.i 115))) 201 false,pC 5 204 201 (.bool true) 203,mV 6 205 204,gM 7 206 24 205 false,gG 8 207 (.bin .eql (.t 206) (.c (.i 0))) 205 false,pC 9 208 205 (.bool true) 207,mV 10 209 208,gM 11 210 24 209 false,gG 12 211 (.bin .eql (.t 210) (.c (.i 112))) 209 false,pC 13 212 209 (.bool true) 211,mV 14 25 212] [3,4,16,18,25,157,158,159]) (c3_0)
def c3_2:AC :=
 .seq (.region 0 [mV 0 190 4,nC 1 191 190,fA 2 192 0 191,lD 3 193 192,mV 4 194 15,aB 5 195 18 193 194,mV 6 189 195,eX 7 196 189 0,eX 8 197 189 1,eX 9 198 189 2,mV 10 22 196,mV 11 23 197,mV 12 24 198] [3,4,16,18,21,24,157,158,159]) (c3_1)
def c3_3:AC :=
 .seq (.region 0 [mV 0 180 4,nC 1 181 180,fA 2 182 0 181,lD 3 183 182,mV 4 184 15,qQ 5 185 (.call 17 [(.t 183),(.t 184),(.c (.i 1))]),mV 6 179 185,eX 7 186 179 0,eX 8 187 179 1,eX 9 188 179 2,mV 10 19 186,mV 11 20 187,mV 12 21 188] [3,4,15,16,18,21,157,158,159]) (c3_2)
def c3_4:AC :=
 .seq (.region 0 [mV 0 170 4,nC 1 171 170,fA 2 172 0 171,lD 3 173 172,mV 4 174 15,qQ 5 175 (.bslice 1 1 [.int .u8 0] [(0,(.c (.int .u8 1)))]),aC 6 176 16 173 174 175,mV 7 169 176,eX 8 177 169 0,eX 9 178 169 1,mV 10 17 177,mV 11 18 178] [3,4,15,16,18,157,158,159]) (c3_3)
def c3_5:AC :=
 .seq (.region 0 [mV 0 163 4,nC 1 164 163,fA 2 165 0 164,lD 3 166 165,mV 4 167 15,aB 5 168 13 166 167,qQ 6 16 (.alloc 7 [.bool false,.bool false,.bool false,.bool false,.bool false,.int .u64 0,.int .u64 0]),sT 7 7 16 168] [3,4,15,16,157,158,159]) (c3_4)
def c3_6:AC :=
 .seq (.block 7 (.seq (.region 0 [iS 0 161 1 157 159,lD 1 162 161,mV 2 15 162] [3,4,15,157,158,159]) (c3_5))) (.region 0 [bC 0 234 .add 159 (.i 1),mV 1 159 234] [3,4,157,158,159])
def c3_7:AC :=
 .seq (.region 0 [mV 0 110 13,mV 1 111 110,gF 2 112 1 12 111 true,gL 3 113 112 111 true,gM 4 114 113 111 true,gM 5 115 11 114 true,gG 6 116 (.ixaA 96 7 (.t 6) (.t 115)) 114 true,gF 7 117 1 116 114 true,gL 8 118 117 114 true,gG 9 119 (.un .not (.t 118)) 114 true,gG 10 120 (.pick (.t 114) (.t 119) (.c (.bool false))) 111 true,gM 11 121 120 111 true,gF 12 122 5 12 121 true,gL 13 123 122 121 true,gM 14 124 11 121 true,gG 15 125 (.ixaA 96 7 (.t 6) (.t 124)) 121 true,gF 16 126 5 125 121 true,gL 17 127 126 121 true,gG 18 128 (.bin .eql (.t 123) (.t 127)) 121 true,gG 19 129 (.pick (.t 121) (.t 128) (.c (.bool false))) 111 true,gM 20 130 129 111 true,gF 21 131 2 12 130 false,gL 22 132 131 130 false,gM 23 133 132 130 false,gM 24 134 11 133 true,gG 25 135 (.ixaA 96 7 (.t 6) (.t 134)) 133 true,gF 26 136 2 135 133 true,gL 27 137 136 133 true,gG 28 138 (.un .not (.t 137)) 133 true,gG 29 139 (.pick (.t 133) (.t 138) (.c (.bool false))) 130 false,gM 30 140 139 130 false,gF 31 141 6 12 140 true,gL 32 142 141 140 true,gM 33 143 11 140 true,gG 34 144 (.ixaA 96 7 (.t 6) (.t 143)) 140 true,gF 35 145 6 144 140 true,gL 36 146 145 140 true,gG 37 147 (.bin .eql (.t 142) (.t 146)) 140 true,gG 38 148 (.pick (.t 140) (.t 147) (.c (.bool false))) 130 false,gG 39 149 (.pick (.t 130) (.c (.bool true)) (.t 148)) 111 true,pT 40 150 111 149 (.bool false)] [0,3,4,6,37,38,72,73,74,150]) (.cond (.t 150) (.seq (.region 0 [mC 0 2 (.bool false)] [2]) (.ret)) (.skip))
def c3_8:AC :=
 .seq (.region 0 [mV 0 84 11,iA 1 85 96 7 6 84,fA 2 86 0 85,lD 3 87 86,mV 4 88 87,gF 5 89 0 12 88 true,gL 6 90 89 88 true,pT 7 91 88 90 (.bool false),mV 8 92 91,gF 9 93 5 12 92 true,gL 10 94 93 92 true,gM 11 95 11 92 true,gG 12 96 (.ixaA 96 7 (.t 6) (.t 95)) 92 true,gF 13 97 5 96 92 true,gL 14 98 97 92 true,gG 15 99 (.bin .geq (.t 94) (.t 98)) 92 true,pT 16 100 92 99 (.bool false),mV 17 101 100,gF 18 102 6 12 101 true,gL 19 103 102 101 true,gM 20 104 11 101 true,gG 21 105 (.ixaA 96 7 (.t 6) (.t 104)) 101 true,gF 22 106 6 105 101 true,gL 23 107 106 101 true,gG 24 108 (.bin .geq (.t 103) (.t 107)) 101 true,pT 25 109 101 108 (.bool false),mV 26 13 109] [0,3,4,6,11,12,13,37,38,72,73,74]) (c3_7)
def c3_9:AC :=
 .seq (.region 0 [mV 0 78 4,nC 1 79 78,fA 2 80 0 79,lD 3 81 80,mV 4 82 11,aB 5 83 13 81 82,qQ 6 12 (.alloc 7 [.bool false,.bool false,.bool false,.bool false,.bool false,.int .u64 0,.int .u64 0]),sT 7 7 12 83] [0,3,4,6,11,12,37,38,72,73,74]) (c3_8)
def c3_10:AC :=
 .seq (.block 5 (.seq (.region 0 [iS 0 76 1 72 74,lD 1 77 76,mV 2 11 77] [0,3,4,6,11,37,38,72,73,74]) (c3_9))) (.region 0 [bC 0 151 .add 74 (.i 1),mV 1 74 151] [0,3,4,6,37,38,72,73,74])
def c3_11:AC :=
 .seq (.region 0 [mV 0 72 9,lL 1 73 72,mC 2 74 (.i 0)] [0,3,4,6,37,38,72,73,74]) (.block 4 (.loop [0,3,4,6,37,38,72,73,74] (.seq (.region 0 [bB 0 75 .lss 74 73] [0,3,4,6,37,38,72,73,74,75]) (.seq (.cond (.t 75) (.skip) (.exit 4)) (c3_10)))))
def c3_12:AC :=
 .seq (.seq (.region 0 [mV 0 65 4,mV 1 66 0,mV 2 67 5,iS 3 68 5 66 67,lN 4 69 5 68,aB 5 70 15 65 69,qQ 6 71 (.un .not (.t 70))] [0,3,4,6,9,37,38,71]) (.cond (.t 71) (.seq (.region 0 [mC 0 2 (.bool false)] [2]) (.ret)) (.skip))) (c3_11)
def c3_13:AC :=
 .region 0 [mV 0 51 8,mV 1 52 4,nC 2 53 52,fA 3 54 0 53,lD 4 55 54,mV 5 56 8,aB 6 57 13 55 56,iA 7 58 96 7 6 51,sT 8 7 58 57] [0,3,4,5,6,37,38,45,46,47]
def c3_14:AC :=
 .seq (.block 3 (.seq (.region 0 [iS 0 49 1 45 47,lD 1 50 49,mV 2 8 50] [0,3,4,5,6,8,37,38,45,46,47]) (c3_13))) (.region 0 [bC 0 59 .add 47 (.i 1),mV 1 47 59] [0,3,4,5,6,37,38,45,46,47])
def c3_15:AC :=
 .seq (.region 0 [mV 0 60 4,nC 1 61 60,fA 2 62 1 61,lD 3 63 62,aA 4 64 14 63,mV 5 9 64] [0,3,4,5,6,9,37,38]) (c3_12)
def c3_16:AC :=
 .seq (.seq (.region 0 [mV 0 41 4,nC 1 42 41,fA 2 43 0 42,lD 3 44 43,aA 4 45 12 44,lL 5 46 45,mC 6 47 (.i 0)] [0,3,4,5,6,37,38,45,46,47]) (.block 2 (.loop [0,3,4,5,6,37,38,45,46,47] (.seq (.region 0 [bB 0 48 .lss 47 46] [0,3,4,5,6,37,38,45,46,47,48]) (.seq (.cond (.t 48) (.skip) (.exit 2)) (c3_14)))))) (c3_15)
def c3_17:AC :=
 .seq (.region 0 [mV 0 40 38,mV 1 5 40] [0,3,4,5,37,38]) (.seq (.region 0 [qQ 0 6 (.alloc 672 ((List.replicate 96 ([.bool false,.bool false,.bool false,.bool false,.bool false,.int .u64 0,.int .u64 0]:List V)).flatten))] [0,3,4,5,6,37,38]) (c3_16))
def c3_18:AC :=
 .loop [0,3,4,37,38] (.seq (.region 0 [bB 0 39 .lss 38 37] [0,3,4,37,38,39]) (.seq (.cond (.t 39) (.skip) (.exit 0)) (.seq (.block 1 (c3_17)) (.region 0 [bC 0 152 .add 38 (.i 1),mV 1 38 152] [0,3,4,37,38]))))
def c3_19:AC :=
 .seq (.seq (.region 0 [mV 0 153 4,nC 1 154 153,fA 2 155 0 154,lD 3 156 155,aA 4 157 12 156,lL 5 158 157,mC 6 159 (.i 0)] [3,4,157,158,159]) (.block 6 (.loop [3,4,157,158,159] (.seq (.region 0 [bB 0 160 .lss 159 158] [3,4,157,158,159,160]) (.seq (.cond (.t 160) (.skip) (.exit 6)) (c3_6)))))) (.seq (.region 0 [mV 0 235 3,mV 1 2 235] [2]) (.ret))
def c3_20:AC :=
 .seq (.region 0 [qQ 0 35 (.call 11 []),mV 1 4 35] [0,3,4]) (.seq (.seq (.region 0 [mV 0 36 0,lL 1 37 36,mC 2 38 (.i 0)] [0,3,4,37,38]) (.block 0 (c3_18))) (c3_19))
def c3_21:AC :=
 .seq (.seq (.region 0 [mV 0 27 0,aA 1 28 10 27,bC 2 29 .gtr 28 (.i 0),mV 3 30 29,gM 4 31 3 30 false,gG 5 32 (.un .not (.t 31)) 30 false,pC 6 33 30 (.bool true) 32] [0,3,33]) (.cond (.t 33) (.seq (.region 0 [mV 0 34 3,mV 1 2 34] [2]) (.ret)) (.skip))) (c3_20)
def c3:AFn:=⟨1,236,[.tmp 2],(.seq (.region 0 [mC 0 2 (.bool false)] [0]) (.seq (.region 0 [qQ 0 26 (.call 9 []),mV 1 3 26] [0,3]) (c3_21)))⟩
def c8_0:AC :=
 .seq (.region 0 [mV 0 221 31,bC 1 222 .neq 221 (.i 0),mV 2 223 222,gM 3 224 30 223 false,gM 4 225 32 223 false,gG 5 226 (.bin .neq (.t 224) (.t 225)) 223 false,pC 6 227 223 (.bool true) 226] [7,8,11,12,13,14,22,23,26,29,227]) (.cond (.t 227) (.seq (.region 0 [mC 0 6 (.bool false)] [6]) (.ret)) (.skip))
def c8_1:AC :=
 .seq (.seq (.region 0 [lN 0 212 2 23,mV 1 213 13,mV 2 214 29,iS 3 215 2 213 214,fA 4 216 0 215,lD 5 217 216,aB 6 218 34 212 217] [7,8,11,12,13,14,22,23,26,29,30,31,32,218]) (.cond (.t 218) (.region 0 [mV 0 219 32,bC 1 220 .or 219 (.i 4),mV 2 32 220] [7,8,11,12,13,14,22,23,26,29,30,31,32]) (.skip))) (c8_0)
def c8_2:AC :=
 .seq (.seq (.region 0 [lN 0 203 2 22,mV 1 204 13,mV 2 205 29,iS 3 206 2 204 205,fA 4 207 0 206,lD 5 208 207,aB 6 209 34 203 208] [7,8,11,12,13,14,22,23,26,29,30,31,32,209]) (.cond (.t 209) (.region 0 [mV 0 210 32,bC 1 211 .or 210 (.i 2),mV 2 32 211] [7,8,11,12,13,14,22,23,26,29,30,31,32]) (.skip))) (c8_1)
def c8_3:AC :=
 .seq (.region 0 [mV 0 192 14,mV 1 193 29,iS 2 194 1 192 193,lD 3 195 194,mV 4 196 26,mV 5 197 29,iS 6 198 1 196 197,lD 7 199 198,aB 8 200 37 195 199,mV 9 191 200,eX 10 201 191 0,eX 11 202 191 1,mV 12 30 201,mV 13 31 202] [7,8,11,12,13,14,22,23,26,29,30,31]) (.seq (.region 0 [mC 0 32 (.i 0)] [7,8,11,12,13,14,22,23,26,29,30,31,32]) (c8_2))
def c8_4:AC :=
 .seq (.seq (.region 0 [mV 0 185 29,mV 1 186 13,lL 2 187 186,bB 3 188 .lss 185 187] [7,8,11,12,13,14,22,23,26,29,188]) (.cond (.t 188) (.skip) (.exit 2))) (.seq (.block 3 (c8_3)) (.region 0 [mV 0 189 29,bC 1 190 .add 189 (.i 1),mV 2 29 190] [7,8,11,12,13,14,22,23,26,29]))
def c8_5:AC :=
 .seq (.region 0 [mV 0 228 7,mV 1 229 228,gM 2 230 8 229 true,gG 3 231 (.nilck (.t 230)) 229 true,gF 4 232 0 231 229 true,gL 5 233 232 229 true,gM 6 234 13 229 true,gM 8 236 8 229 true,gG 9 237 (.nilck (.t 236)) 229 true,gF 10 238 0 237 229 true,gL 11 239 238 229 true,gG 12 240 (.loadN 2 (.t 11)) 229 true,gG 13 241 (.loadN 2 (.t 12)) 229 true,⟨7,(some 235),.call 23 [(.t 233),(.t 234)],(some (229,true)),none,[(239,.load1 (.t 238),(some (229,true))),(240,.loadN 2 (.t 11),(some (229,true))),(241,.loadN 2 (.t 12),(some (229,true)))]⟩,gG 14 242 (.call 38 [(.t 239),(.c (.i 64)),(.t 240),(.t 241)]) 229 true,gG 15 243 (.eq .bool false (.t 235) (.t 242)) 229 true,pT 16 244 229 243 (.bool false),mV 17 6 244] [6]) (.ret)
def c8_6:AC :=
 .seq (.seq (.region 0 [mV 0 165 25,bC 1 166 .neq 165 (.i 0),mV 2 167 166,gM 3 168 28 167 false,gG 4 169 (.bin .neq (.t 168) (.c (.i 0))) 167 false,pC 5 170 167 (.bool true) 169,mV 6 171 170,gM 7 172 26 171 false,gG 8 173 (.lenL (.t 172)) 171 false,gM 9 174 13 171 false,gG 10 175 (.lenL (.t 174)) 171 false,gG 11 176 (.bin .neq (.t 173) (.t 175)) 171 false,pC 12 177 171 (.bool true) 176,mV 13 178 177,gM 14 179 24 178 false,gG 15 180 (.bin .gtr (.t 179) (.c (.i 0))) 178 false,gM 16 181 27 178 false,gG 17 182 (.bin .gtr (.t 181) (.c (.i 0))) 178 false,gG 18 183 (.eq .bool true (.t 180) (.t 182)) 178 false,pC 19 184 178 (.bool true) 183] [7,8,11,12,13,14,22,23,26,184]) (.cond (.t 184) (.seq (.region 0 [mC 0 6 (.bool false)] [6]) (.ret)) (.skip))) (.seq (.seq (.region 0 [mC 0 29 (.i 0)] [7,8,11,12,13,14,22,23,26,29]) (.block 2 (.loop [7,8,11,12,13,14,22,23,26,29] (c8_4)))) (c8_5))
def c8_7:AC :=
 .seq (.region 0 [mV 0 156 8,nC 1 157 156,fA 2 158 0 157,lD 3 159 158,mV 4 160 13,aB 5 161 21 159 160,mV 6 155 161,eX 7 162 155 0,eX 8 163 155 1,eX 9 164 155 2,mV 10 26 162,mV 11 27 163,mV 12 28 164] [7,8,11,12,13,14,22,23,24,25,26,27,28]) (c8_6)
def c8_8:AC :=
 .region 0 [mV 0 127 7,mV 1 128 127,gM 2 129 21 128 true,gG 3 130 (.bin .eql (.t 129) (.c (.i 0))) 128 true,pT 4 131 128 130 (.bool false),mV 5 7 131] [1,2,7,8,9,11,12,13,14,15,16,17]
def c8_9:AC :=
 .seq (.region 0 [lN 0 121 2 12,mV 1 122 16,aB 2 123 35 121 122,mV 3 120 123,eX 4 124 120 0,eX 5 125 120 1,qQ 6 20 (.alloc 2 [.int .u32 0,.int .u32 0]),sT 7 2 20 124,mV 8 21 125] [1,2,7,8,9,11,12,13,14,15,16,17,20,21]) (.seq (.region 0 [lN 0 126 2 20,sT 1 2 12 126] [1,2,7,8,9,11,12,13,14,15,16,17,21]) (c8_8))
def c8_10:AC :=
 .seq (.region 0 [mV 0 132 13,mV 1 133 16,mV 2 134 17,aA 3 135 36 134,qQ 4 136 (.build [.i 0,.i 0] [(0,1,(.t 133)),(1,1,(.t 135))]),qQ 5 137 (.bslice 2 1 [.i 0,.i 0] [(0,(.t 136))]),qQ 6 138 (.append 2 16 (.t 132) (.t 137)),mV 7 13 138] [1,2,7,8,9,11,12,13,14,15,17]) (.region 0 [mV 0 139 14,mV 1 140 17,qQ 2 141 (.bslice 1 1 [.i 0] [(0,(.t 140))]),qQ 3 142 (.append 1 8 (.t 139) (.t 141)),mV 4 14 142] [1,2,7,8,9,11,12,13,14,15])
def c8_11:AC :=
 .region 0 [mV 0 112 7,mV 1 113 112,gM 2 114 19 113 true,gG 3 115 (.bin .eql (.t 114) (.c (.i 0))) 113 true,pT 4 116 113 115 (.bool false),mV 5 7 116] [1,2,7,8,9,11,12,13,14,15,16,17]
def c8_12:AC :=
 .seq (.region 0 [lN 0 106 2 11,mV 1 107 16,aB 2 108 35 106 107,mV 3 105 108,eX 4 109 105 0,eX 5 110 105 1,qQ 6 18 (.alloc 2 [.int .u32 0,.int .u32 0]),sT 7 2 18 109,mV 8 19 110] [1,2,7,8,9,11,12,13,14,15,16,17,18,19]) (.seq (.region 0 [lN 0 111 2 18,sT 1 2 11 111] [1,2,7,8,9,11,12,13,14,15,16,17,19]) (c8_11))
def c8_13:AC :=
 .seq (.seq (.region 0 [mV 0 102 17,bC 1 103 .and 102 (.i 2),bC 2 104 .neq 103 (.i 0)] [1,2,7,8,9,11,12,13,14,15,16,17,104]) (.cond (.t 104) (c8_12) (.skip))) (.seq (.seq (.region 0 [mV 0 117 17,bC 1 118 .and 117 (.i 4),bC 2 119 .neq 118 (.i 0)] [1,2,7,8,9,11,12,13,14,15,16,17,119]) (.cond (.t 119) (c8_9) (.skip))) (c8_10))
def c8_14:AC :=
 .seq (.seq (.region 0 [mV 0 82 9,mV 1 83 16,iS 2 84 7 82 83,fA 3 85 0 84,lD 4 86 85,qQ 5 87 (.un .not (.t 86)),mV 6 88 87,gG 7 89 (.loadN 2 (.t 11)) 88 false,gM 8 90 16 88 false,gG 9 91 (.call 34 [(.t 89),(.t 90)]) 88 false,pC 10 92 88 (.bool true) 91,mV 11 93 92,gG 12 94 (.loadN 2 (.t 12)) 93 false,gM 13 95 16 93 false,gG 14 96 (.call 34 [(.t 94),(.t 95)]) 93 false,pC 15 97 93 (.bool true) 96,mV 16 98 97,gM 17 99 17 98 false,gG 18 100 (.bin .eql (.t 99) (.c (.i 0))) 98 false,pC 19 101 98 (.bool true) 100] [1,2,7,8,9,11,12,13,14,15,16,17,101]) (.cond (.t 101) (.exit 1) (.skip))) (c8_13)
def c8_15:AC :=
 .seq (.region 0 [mV 0 75 2,mV 1 76 15,iS 2 77 1 75 76,lD 3 78 77,qQ 4 79 (.convInt .i64 (.t 78)),bC 5 80 .rem 79 (.i 4),bC 6 81 .mul 80 (.i 2),mV 7 17 81] [1,2,7,8,9,11,12,13,14,15,16,17]) (c8_14)
def c8_16:AC :=
 .seq (.region 0 [mV 0 69 1,mV 1 70 15,iS 2 71 1 69 70,lD 3 72 71,qQ 4 73 (.convInt .i64 (.t 72)),bC 5 74 .rem 73 (.i 64),mV 6 16 74] [1,2,7,8,9,11,12,13,14,15,16]) (c8_15)
def c8_17:AC :=
 .seq (.seq (.region 0 [mV 0 63 15,mV 1 64 1,lL 2 65 64,bB 3 66 .lss 63 65] [1,2,7,8,9,11,12,13,14,15,66]) (.cond (.t 66) (.skip) (.exit 0))) (.seq (.block 1 (c8_16)) (.region 0 [mV 0 67 15,bC 1 68 .add 67 (.i 1),mV 2 15 68] [1,2,7,8,9,11,12,13,14,15]))
def c8_18:AC :=
 .seq (.region 2 [mV 0 144 8,nC 1 145 144,fA 2 146 0 145,lD 3 147 146,lN 4 148 2 11,lN 5 149 2 12,qQ 6 150 (.call 28 [(.t 147),(.c (.i 64)),(.t 148),(.t 149)]),mV 7 143 150,eX 8 151 143 0,eX 9 152 143 1,eX 10 153 143 2,eX 11 154 143 3,⟨12,(some 22),.alloc 2 [.int .u32 0,.int .u32 0],none,some 0,[]⟩,⟨13,(some 23),.alloc 2 [.int .u32 0,.int .u32 0],none,some 1,[]⟩,sT 14 2 22 151,sT 15 2 23 152,mV 16 24 153,mV 17 25 154] [7,8,11,12,13,14,22,23,24,25]) (c8_7)
def c8_19:AC :=
 .seq (.region 0 [mC 0 13 (.nils)] [1,2,7,8,9,11,12,13]) (.seq (.region 0 [mC 0 14 (.nils)] [1,2,7,8,9,11,12,13,14]) (.seq (.seq (.region 0 [mC 0 15 (.i 0)] [1,2,7,8,9,11,12,13,14,15]) (.block 0 (.loop [1,2,7,8,9,11,12,13,14,15] (c8_17)))) (c8_18)))
def c8_20:AC :=
 .seq (.seq (.region 0 [mV 0 60 10,qQ 1 61 (.un .not (.t 60))] [1,2,7,8,9,61]) (.cond (.t 61) (.seq (.region 0 [mV 0 62 7,mV 1 6 62] [6]) (.ret)) (.skip))) (.seq (.region 0 [qQ 0 11 (.alloc 2 [.int .u32 0,.int .u32 0])] [1,2,7,8,9,11]) (.seq (.region 0 [qQ 0 12 (.alloc 2 [.int .u32 0,.int .u32 0])] [1,2,7,8,9,11,12]) (c8_19)))
def c8_21:AC :=
 .seq (.region 0 [mV 0 55 0,aA 1 56 20 55,mV 2 54 56,eX 3 57 54 0,eX 4 58 54 1,eX 5 59 54 2,mV 6 8 57,mV 7 9 58,mV 8 10 59] [1,2,7,8,9,10]) (c8_20)
def c8_22:AC :=
 .seq (.seq (.region 0 [mV 0 34 1,lL 1 35 34,bC 2 36 .gtr 35 (.i 60),mV 3 37 36,gM 4 38 2 37 false,gG 5 39 (.lenL (.t 38)) 37 false,gM 6 40 1 37 false,gG 7 41 (.lenL (.t 40)) 37 false,gG 8 42 (.bin .lss (.t 39) (.t 41)) 37 false,pC 9 43 37 (.bool true) 42,mV 10 44 43,gM 11 45 2 44 false,gG 12 46 (.lenL (.t 45)) 44 false,gG 13 47 (.bin .gtr (.t 46) (.c (.i 100))) 44 false,pC 14 48 44 (.bool true) 47,mV 15 49 48,gM 16 50 7 49 false,gG 17 51 (.un .not (.t 50)) 49 false,pC 18 52 49 (.bool true) 51] [0,1,2,7,52]) (.cond (.t 52) (.seq (.region 0 [mV 0 53 7,mV 1 6 53] [6]) (.ret)) (.skip))) (c8_21)
def c8:AFn:=⟨3,245,[.tmp 6],(.seq (.region 0 [mC 0 6 (.bool false)] [0,1,2]) (.seq (.region 0 [qQ 0 33 (.call 19 []),mV 1 7 33] [0,1,2,7]) (c8_22)))⟩
def c9_0:AC :=
 .seq (.region 0 [mV 0 33 4,bC 1 34 .eql 33 (.i 0),mV 2 35 34,gM 3 36 2 35 true,gG 4 37 (.bin .eql (.t 36) (.c (.i 0))) 35 true,pT 5 38 35 37 (.bool false),mV 6 39 38,gM 7 40 3 39 true,gG 8 41 (.bin .eql (.t 40) (.c (.i 0))) 39 true,pT 9 42 39 41 (.bool false),mV 10 43 42,gM 11 44 5 43 true,gG 12 45 (.bin .eql (.t 44) (.c (.i 4))) 43 true,pT 13 46 43 45 (.bool false),mV 14 47 46,gM 15 48 6 47 true,gG 16 49 (.bin .eql (.t 48) (.c (.i 0))) 47 true,pT 17 50 47 49 (.bool false),mV 18 51 50,gF 19 52 1 7 51 true,gL 20 53 52 51 true,pT 21 54 51 53 (.bool false),mV 22 55 54,gF 23 56 2 7 55 true,gL 24 57 56 55 true,pT 25 58 55 57 (.bool false),mV 26 59 58,gF 27 60 5 7 59 true,gL 28 61 60 59 true,gG 29 62 (.bin .eql (.t 61) (.c (.int .u64 1))) 59 true,pT 30 63 59 62 (.bool false),mV 31 64 63,gM 32 65 8 64 true,gG 33 66 (.ofBytes (.t 65)) 64 true,gG 34 67 (.bin .eql (.t 66) (.c (.str [97,98,99]))) 64 true,pT 35 68 64 67 (.bool false),mV 36 69 68,gM 37 70 9 69 true,gG 38 71 (.un .not (.t 70)) 69 true,pT 39 72 69 71 (.bool false),mV 40 73 72,gM 41 74 10 73 true,gG 42 75 (.bin .eql (.t 74) (.c (.i 0))) 73 true,pT 43 76 73 75 (.bool false),mV 44 0 76] [0]) (.ret)
def c9_1:AC :=
 .seq (.region 0 [mV 0 28 1,qQ 1 29 (.call 17 [(.t 28),(.c (.i 0)),(.c (.i 3))]),mV 2 27 29,eX 3 30 27 0,eX 4 31 27 1,eX 5 32 27 2,mV 6 8 30,mV 7 9 31,mV 8 10 32] [2,3,4,5,6,7,8,9,10]) (c9_0)
def c9_2:AC :=
 .seq (.region 0 [mV 0 25 1,qQ 1 26 (.call 13 [(.t 25),(.c (.i 0))]),qQ 2 7 (.alloc 7 [.bool false,.bool false,.bool false,.bool false,.bool false,.int .u64 0,.int .u64 0]),sT 3 7 7 26] [1,2,3,4,5,6,7]) (c9_1)
def c9_3:AC :=
 .seq (.region 0 [mV 0 19 1,qQ 1 20 (.bslice 1 6 [.int .u8 0,.int .u8 0,.int .u8 0,.int .u8 0,.int .u8 0,.int .u8 0] [(0,(.c (.int .u8 97))),(1,(.c (.int .u8 98))),(2,(.c (.int .u8 99))),(3,(.c (.int .u8 100))),(4,(.c (.int .u8 101))),(5,(.c (.int .u8 102)))]),qQ 2 21 (.mark (.t 20)),qQ 3 22 (.call 41 [(.t 19),(.c (.i 0)),(.t 21)]),mV 4 18 22,eX 5 23 18 0,eX 6 24 18 1,mV 7 5 23,mV 8 6 24] [1,2,3,4,5,6]) (c9_2)
def c9_4:AC :=
 .seq (.region 0 [mV 0 13 1,qQ 1 14 (.call 40 [(.t 13),(.c (.i 4))]),mV 2 12 14,eX 3 15 12 0,eX 4 16 12 1,eX 5 17 12 2,mV 6 2 15,mV 7 3 16,mV 8 4 17] [1,2,3,4]) (c9_3)
def c9:AFn:=⟨0,77,[.tmp 0],(.seq (.region 0 [mC 0 0 (.bool false)] []) (.seq (.region 0 [qQ 0 11 (.call 39 []),mV 1 1 11] [1]) (c9_4)))⟩
def c10_0:AC :=
 .seq (.region 0 [mV 0 12 0,mV 1 13 3,iS 2 14 5 12 13,fA 3 15 4 14,lD 4 16 15,lL 5 17 16,bC 6 18 .gtr 17 (.i 300)] [0,8,9,18]) (.cond (.t 18) (.seq (.region 0 [mC 0 2 (.i 1)] [2]) (.ret)) (.skip))
def c10_1:AC :=
 .seq (.region 0 [bB 0 10 .lss 9 8] [0,8,9,10]) (.seq (.cond (.t 10) (.skip) (.exit 0)) (.seq (.block 1 (.seq (.region 0 [mV 0 11 9,mV 1 3 11] [0,3,8,9]) (c10_0))) (.region 0 [bC 0 19 .add 9 (.i 1),mV 1 9 19] [0,8,9])))
def c10_2:AC :=
 .seq (.seq (.region 0 [mV 0 4 0,lL 1 5 4,bC 2 6 .gtr 5 (.i 200)] [0,6]) (.cond (.t 6) (.seq (.region 0 [mC 0 2 (.i 1)] [2]) (.ret)) (.skip))) (.seq (.seq (.region 0 [mV 0 7 0,lL 1 8 7,mC 2 9 (.i 0)] [0,8,9]) (.block 0 (.loop [0,8,9] (c10_1)))) (.seq (.region 0 [mC 0 2 (.i 0)] [2]) (.ret)))
def c10:AFn:=⟨1,20,[.tmp 2],(.seq (.region 0 [mC 0 2 (.i 0)] [0]) (c10_2))⟩
def c11_0:AC :=
 .seq (.region 0 [mC 0 0 (.ptr none)] []) (.seq (.region 0 [qQ 0 1 (.call 39 []),qQ 1 2 (.call 42 []),qQ 2 3 (.build [.ptr none,.ptr none] [(0,1,(.t 1)),(1,1,(.t 2))]),qQ 3 4 (.box 2 (.t 3)),mV 4 0 4] [0]) (.ret))
def c11:AFn:=⟨0,5,[.tmp 0],(c11_0)⟩
def c12_0:AC :=
 .seq (.region 0 [fA 0 17 0 5,lD 1 18 17] [3,4,12,13,18]) (.cond (.t 18) (.region 0 [mV 0 19 3,mV 1 20 4,qQ 2 21 (.bslice 1 1 [.i 0] [(0,(.t 20))]),qQ 3 22 (.append 1 8 (.t 19) (.t 21)),mV 4 3 22] [3,12,13]) (.skip))
def c12_1:AC :=
 .seq (.block 1 (.seq (.region 0 [mV 0 15 13,qQ 1 16 (.ixA 96 3 (some 3) (.t 12) (.t 13)),qQ 2 5 (.alloc 3 [.bool false,.i 0,.i 0]),mV 3 4 15,sT 4 3 5 16] [3,4,5,12,13]) (c12_0))) (.region 0 [bC 0 23 .add 13 (.i 1),mV 1 13 23] [3,12,13])
def c12_2:AC :=
 .seq (.region 0 [mV 0 9 0,nC 1 10 9,fA 2 11 0 10,lN 3 12 288 11,mC 4 13 (.i 0)] [3,12,13]) (.block 0 (.loop [3,12,13] (.seq (.region 0 [bC 0 14 .lss 13 (.i 96)] [3,12,13,14]) (.seq (.cond (.t 14) (.skip) (.exit 0)) (c12_1)))))
def c12_3:AC :=
 .seq (.region 0 [mC 0 3 (.nils)] [0,3]) (.seq (.seq (.region 0 [mV 0 6 0,aA 1 7 43 6,qQ 2 8 (.un .not (.t 7))] [0,3,8]) (.cond (.t 8) (c12_2) (.skip))) (.seq (.region 0 [mV 0 24 3,mV 1 2 24] [2]) (.ret)))
def c12:AFn:=⟨1,25,[.tmp 2],(.seq (.region 0 [mC 0 2 (.nils)] [0]) (c12_3))⟩
def c13_0:AC :=
 .seq (.region 0 [fA 0 85 3 8,lD 1 86 85,mV 2 87 86,gF 3 88 4 8 87 true,gL 4 89 88 87 true,gG 5 90 (.un .not (.t 89)) 87 true,pT 6 91 87 90 (.bool false),mV 7 92 91,gF 8 93 3 10 92 true,gL 9 94 93 92 true,gM 10 95 94 92 true,gM 11 96 6 95 false,gG 12 97 (.nilck (.t 96)) 95 false,gF 13 98 14 97 95 false,gL 14 99 98 95 false,gG 15 100 (.pick (.t 95) (.c (.bool true)) (.t 99)) 92 true,gM 16 101 100 92 true,gF 17 102 2 9 101 false,gL 18 103 102 101 false,gG 19 104 (.call 47 [(.t 103)]) 101 false,gG 20 105 (.bin .gtr (.t 104) (.c (.i 0))) 101 false,gG 21 106 (.pick (.t 101) (.c (.bool true)) (.t 105)) 92 true,pT 22 107 92 106 (.bool false),fA 23 108 2 10,sT 24 1 108 107] [4,10]) (.seq (.region 0 [lN 0 109 7 10,sT 1 7 4 109] [4]) (.ret))
def c13_1:AC :=
 .seq (.region 0 [fA 0 63 2 8,lD 1 64 63,qQ 2 65 (.eq .ptr true (.t 64) (.c (.ptr none))),mV 3 66 65,gF 4 67 2 8 66 true,gL 5 68 67 66 true,gG 6 69 (.call 45 [(.t 68)]) 66 true,gG 7 70 (.bin .gtr (.t 69) (.c (.i 0))) 66 true,gM 8 71 70 66 true,gM 9 72 6 71 false,gF 10 73 2 5 71 false,gL 11 74 73 71 false,gG 12 75 (.call 46 [(.t 72),(.t 74)]) 71 false,gG 13 76 (.pick (.t 71) (.c (.bool true)) (.t 75)) 66 true,gM 14 77 76 66 true,gM 15 78 6 77 false,gG 16 79 (.nilck (.t 78)) 77 false,gF 17 80 14 79 77 false,gL 18 81 80 77 false,gG 19 82 (.pick (.t 77) (.c (.bool true)) (.t 81)) 66 true,pT 20 83 66 82 (.bool false),fA 21 84 1 10,sT 22 1 84 83] [4,6,8,9,10]) (c13_0)
def c13_2:AC :=
 .seq (.region 0 [mV 0 46 6,nC 1 47 46,fA 2 48 16 47,lD 3 49 48,lL 4 50 49,bC 5 51 .gtr 50 (.i 0),fA 6 52 1 10,sT 7 1 52 51] [4,10]) (.seq (.region 0 [lN 0 53 7 10,sT 1 7 4 53] [4]) (.ret))
def c13_3:AC :=
 .seq (.region 0 [fA 0 54 0 9,lD 1 55 54,bC 2 56 .eql 55 (.i 3),mV 3 57 6,nC 4 58 57,fA 5 59 14 58,lD 6 60 59,fA 7 61 3 10,⟨8,none,.store 1 (.t 61) (.t 56),none,none,[(60,.load1 (.t 59),none)]⟩,fA 9 62 4 10,sT 10 1 62 60] [4,5,6,8,9,10]) (c13_1)
def c13_4:AC :=
 .seq (.seq (.region 0 [mV 0 41 6,nC 1 42 41,fA 2 43 15 42,lD 3 44 43,bC 4 45 .gtr 44 (.i 0)] [4,5,6,8,9,10,45]) (.cond (.t 45) (c13_2) (.skip))) (c13_3)
def c13_5:AC :=
 .seq (.region 0 [fA 0 36 5 8,lD 1 37 36,fA 2 38 6 8,lD 3 39 38,qQ 4 40 (.build [.bool false,.bool false,.bool false,.bool false,.bool false,.int .u64 0,.int .u64 0] [(0,1,(.c (.bool true))),(5,1,(.t 37)),(6,1,(.t 39))]),qQ 5 10 (.alloc 7 [.bool false,.bool false,.bool false,.bool false,.bool false,.int .u64 0,.int .u64 0]),sT 6 7 10 40] [4,5,6,8,9,10]) (c13_4)
def c13_6:AC :=
 .seq (.region 2 [mV 0 21 6,fA 1 22 2 5,lD 2 23 22,nC 3 24 21,fA 4 25 0 24,iA 5 26 2 7 25 23,lN 6 27 7 26,mV 7 28 6,fA 8 29 2 5,lD 9 30 29,qQ 10 31 (.bin .sub (.c (.i 1)) (.t 30)),nC 11 32 28,fA 12 33 0 32,iA 13 34 2 7 33 31,lN 14 35 7 34,⟨15,(some 8),.alloc 7 [.i 0,.i 0,.ptr none,.bool false,.bool false,.int .u64 0,.int .u64 0],none,some 0,[]⟩,⟨16,(some 9),.alloc 7 [.i 0,.i 0,.ptr none,.bool false,.bool false,.int .u64 0,.int .u64 0],none,some 1,[]⟩,⟨17,none,.store 7 (.t 8) (.t 27),none,none,[(30,.load1 (.t 29),none),(35,.loadN 7 (.t 34),none)]⟩,sT 18 7 9 35] [4,5,6,8,9]) (c13_5)
def c13_7:AC :=
 .seq (.seq (.region 0 [mV 0 18 7,bC 1 19 .neq 18 (.i 0)] [4,5,6,19]) (.cond (.t 19) (.seq (.region 0 [qQ 0 20 (.build [.bool false,.bool false,.bool false,.bool false,.bool false,.int .u64 0,.int .u64 0] []),sT 1 7 4 20] [4]) (.ret)) (.skip))) (c13_6)
def c13_8:AC :=
 .seq (.region 0 [mV 0 12 0,mV 1 13 1,aB 2 14 44 12 13,mV 3 11 14,eX 4 15 11 0,eX 5 16 11 1,eX 6 17 11 2,qQ 7 5 (.alloc 3 [.bool false,.i 0,.i 0]),sT 8 3 5 15,mV 9 6 16,mV 10 7 17] [4,5,6,7]) (c13_7)
def c13:AFn:=⟨2,110,[.cellN 4 7],(.seq (.region 0 [qQ 0 4 (.alloc 7 [.bool false,.bool false,.bool false,.bool false,.bool false,.int .u64 0,.int .u64 0])] [0,1,4]) (c13_8))⟩
def c14_0:AC :=
 .seq (.region 0 [mV 0 17 5,bC 1 18 .geq 17 (.i 0)] [0,3,4,18]) (.cond (.t 18) (.region 0 [mV 0 19 3,mV 1 20 4,qQ 2 21 (.bslice 1 1 [.i 0] [(0,(.t 20))]),qQ 3 22 (.append 1 8 (.t 19) (.t 21)),mV 4 3 22] [0,3,4]) (.skip))
def c14_1:AC :=
 .seq (.region 0 [mV 0 12 0,mV 1 13 4,aB 2 14 48 12 13,mV 3 11 14,eX 4 15 11 0,eX 5 16 11 1,mV 6 5 15,mV 7 6 16] [0,3,4,5]) (c14_0)
def c14_2:AC :=
 .seq (.seq (.region 0 [mV 0 7 4,bC 1 8 .leq 7 (.i 95)] [0,3,4,8]) (.cond (.t 8) (.skip) (.exit 0))) (.seq (.block 1 (c14_1)) (.region 0 [mV 0 9 4,bC 1 10 .add 9 (.i 1),mV 2 4 10] [0,3,4]))
def c14_3:AC :=
 .seq (.region 0 [mC 0 2 (.nils)] [0]) (.seq (.region 0 [mC 0 3 (.nils)] [0,3]) (.seq (.seq (.region 0 [mC 0 4 (.i 0)] [0,3,4]) (.block 0 (.loop [0,3,4] (c14_2)))) (.seq (.region 0 [mV 0 23 3,mV 1 2 23] [2]) (.ret))))
def c14:AFn:=⟨1,24,[.tmp 2],(c14_3)⟩
def c15_0:AC :=
 .region 0 [mV 0 279 5,mV 1 280 30,mV 2 281 5,mV 3 282 30,iS 4 283 1 281 282,lD 5 284 283,bC 6 285 .add 284 (.int .u8 1),iS 7 286 1 279 280,sT 8 1 286 285] [5,6,275,276]
def c15_1:AC :=
 .seq (.cond (.t 277) (.skip) (.exit 2)) (.seq (.block 3 (.seq (.region 0 [mV 0 278 276,mV 1 30 278] [5,6,30,275,276]) (c15_0))) (.region 0 [bC 0 287 .add 276 (.i 1),mV 1 276 287] [5,6,275,276]))
def c15_2:AC :=
 .region 0 [mV 0 110 7,mV 1 111 8,mV 2 112 9,mV 3 113 10,mV 4 114 0,nC 5 115 114,fA 6 116 1 115,lD 7 117 116,nC 8 118 117,fA 9 119 0 118,lD 10 120 119,lL 11 121 120,bC 12 122 .sub 121 (.i 1),mV 13 123 11,qQ 14 124 (.call 53 [(.t 110),(.t 111),(.t 112),(.t 113),(.t 122),(.t 123)]),mV 15 6 124] [5,6]
def c15_3:AC :=
 .region 0 [mV 0 88 0,nC 1 89 88,fA 2 90 0 89,lD 3 91 90,fA 4 92 2 3,lD 5 93 92,aB 6 94 40 91 93,mV 7 87 94,eX 8 95 87 0,eX 9 96 87 1,eX 10 97 87 2,mV 11 7 95,mV 12 8 96,mV 13 9 97] [0,3,5,7,8,9]
def c15_4:AC :=
 .region 0 [mV 0 49 0,nC 1 50 49,fA 2 51 0 50,lD 3 52 51,fA 4 53 2 3,lD 5 54 53,aB 6 55 51 52 54,mV 7 48 55,eX 8 56 48 0,eX 9 57 48 1,eX 10 58 48 2,mV 11 7 56,mV 12 8 57,mV 13 9 58] [0,3,5,7,8,9]
def c15_5:AC :=
 .region 0 [mV 0 75 0,nC 1 76 75,fA 2 77 0 76,lD 3 78 77,fA 4 79 2 3,lD 5 80 79,aB 6 81 50 78 80,mV 7 74 81,eX 8 82 74 0,eX 9 83 74 1,eX 10 84 74 2,mV 11 7 82,mV 12 8 83,mV 13 9 84] [0,3,5,7,8,9]
def c15_6:AC :=
 .region 0 [mV 0 62 0,nC 1 63 62,fA 2 64 0 63,lD 3 65 64,fA 4 66 2 3,lD 5 67 66,aB 6 68 49 65 67,mV 7 61 68,eX 8 69 61 0,eX 9 70 61 1,eX 10 71 61 2,mV 11 7 69,mV 12 8 70,mV 13 9 71] [0,3,5,7,8,9]
def c15_7:AC :=
 .seq (.region 0 [bC 0 73 .eql 47 (.i 1),mV 1 72 73] [0,3,5,47,72]) (.cond (.t 72) (c15_5) (.seq (.region 0 [bC 0 86 .eql 47 (.i 2),mV 1 85 86] [0,3,5,85]) (.cond (.t 85) (c15_3) (c15_4))))
def c15_8:AC :=
 .seq (.region 0 [mV 0 99 0,nC 1 100 99,fA 2 101 1 100,lD 3 102 101,fA 4 103 0 3,lD 5 104 103,fA 6 105 2 3,lD 7 106 105,aC 8 107 52 102 104 106,mV 9 98 107,eX 10 108 98 0,eX 11 109 98 1,mV 12 10 108,mV 13 11 109] [0,5,7,8,9,10,11]) (c15_2)
def c15_9:AC :=
 .seq (.seq (.region 0 [fA 0 46 0 3,lD 1 47 46] [0,3,5,47]) (.block 1 (.seq (.region 0 [bC 0 60 .eql 47 (.i 0),mV 1 59 60] [0,3,5,47,59]) (.cond (.t 59) (c15_6) (c15_7))))) (c15_8)
def c15_10:AC :=
 .region 0 [mV 0 149 12,mV 1 150 15,bB 2 151 .eql 149 150,mV 3 152 151,gM 4 153 13 152 true,gM 5 154 16 152 true,gG 6 155 (.bin .eql (.t 153) (.t 154)) 152 true,pT 7 156 152 155 (.bool false),mV 8 157 156,gM 9 158 14 157 true,gM 10 159 17 157 true,gG 11 160 (.bin .eql (.t 158) (.t 159)) 157 true,pT 12 161 157 160 (.bool false),mV 13 6 161] [5,6]
def c15_11:AC :=
 .seq (.region 0 [mV 0 139 0,nC 1 140 139,fA 2 141 1 140,lD 3 142 141,fA 4 143 1 3,lD 5 144 143,aB 6 145 54 142 144,mV 7 138 145,eX 8 146 138 0,eX 9 147 138 1,eX 10 148 138 2,mV 11 15 146,mV 12 16 147,mV 13 17 148] [5,12,13,14,15,16,17]) (c15_10)
def c15_12:AC :=
 .region 0 [mV 0 190 18,qQ 1 191 (.ofBytes (.t 190)),mV 2 192 21,qQ 3 193 (.ofBytes (.t 192)),bB 4 194 .eql 191 193,mV 5 195 194,gM 6 196 19 195 true,gM 7 197 22 195 true,gG 8 198 (.eq .bool false (.t 196) (.t 197)) 195 true,pT 9 199 195 198 (.bool false),mV 10 200 199,gM 11 201 20 200 true,gM 12 202 23 200 true,gG 13 203 (.bin .eql (.t 201) (.t 202)) 200 true,pT 14 204 200 203 (.bool false),mV 15 6 204] [5,6]
def c15_13:AC :=
 .seq (.region 0 [mV 0 178 0,nC 1 179 178,fA 2 180 1 179,lD 3 181 180,fA 4 182 1 3,lD 5 183 182,fA 6 184 2 3,lD 7 185 184,aC 8 186 55 181 183 185,mV 9 177 186,eX 10 187 177 0,eX 11 188 177 1,eX 12 189 177 2,mV 13 21 187,mV 14 22 188,mV 15 23 189] [5,18,19,20,21,22,23]) (c15_12)
def c15_14:AC :=
 .region 0 [mV 0 230 24,mV 1 231 26,bB 2 232 .eql 230 231,mV 3 233 232,gM 4 234 25 233 true,gM 5 235 27 233 true,gG 6 236 (.bin .eql (.t 234) (.t 235)) 233 true,pT 7 237 233 236 (.bool false),mV 8 6 237] [5,6]
def c15_15:AC :=
 .seq (.region 0 [mV 0 219 0,nC 1 220 219,fA 2 221 1 220,lD 3 222 221,fA 4 223 1 3,lD 5 224 223,fA 6 225 4 3,lD 7 226 225,aC 8 227 56 222 224 226,mV 9 218 227,eX 10 228 218 0,eX 11 229 218 1,mV 12 26 228,mV 13 27 229] [5,24,25,26,27]) (c15_14)
def c15_16:AC :=
 .region 0 [mV 0 247 28,mV 1 248 0,nC 2 249 248,fA 3 250 1 249,lD 4 251 250,fA 5 252 1 3,lD 6 253 252,aB 7 254 58 251 253,bB 8 255 .eql 247 254,mV 9 6 255] [5,6]
def c15_17:AC :=
 .region 0 [mV 0 265 29,mV 1 266 0,nC 2 267 266,fA 3 268 1 267,lD 4 269 268,fA 5 270 1 3,lD 6 271 270,aB 7 272 60 269 271,bB 8 273 .eql 265 272,mV 9 6 273] [5,6]
def c15_18:AC :=
 .seq (.region 0 [mV 0 258 0,nC 1 259 258,fA 2 260 0 259,lD 3 261 260,fA 4 262 1 3,lD 5 263 262,aB 6 264 59 261 263,mV 7 29 264] [0,3,5,29]) (c15_17)
def c15_19:AC :=
 .seq (.region 0 [mV 0 240 0,nC 1 241 240,fA 2 242 0 241,lD 3 243 242,fA 4 244 1 3,lD 5 245 244,aB 6 246 57 243 245,mV 7 28 246] [0,3,5,28]) (c15_16)
def c15_20:AC :=
 .seq (.region 0 [bC 0 257 .eql 36 (.i 8),mV 1 256 257] [0,3,5,256]) (.cond (.t 256) (c15_18) (.region 0 [mV 0 37 0,lN 1 38 5 3,mV 2 39 5,aC 3 40 61 37 38 39,mV 4 6 40] [5,6]))
def c15_21:AC :=
 .seq (.region 0 [mV 0 208 0,nC 1 209 208,fA 2 210 0 209,lD 3 211 210,fA 4 212 1 3,lD 5 213 212,mV 6 214 5,aC 7 215 16 211 213 214,mV 8 207 215,eX 9 216 207 0,eX 10 217 207 1,mV 11 24 216,mV 12 25 217] [0,3,5,24,25]) (c15_15)
def c15_22:AC :=
 .seq (.region 0 [mV 0 165 0,nC 1 166 165,fA 2 167 0 166,lD 3 168 167,fA 4 169 1 3,lD 5 170 169,fA 6 171 2 3,lD 7 172 171,aC 8 173 17 168 170 172,mV 9 164 173,eX 10 174 164 0,eX 11 175 164 1,eX 12 176 164 2,mV 13 18 174,mV 14 19 175,mV 15 20 176] [0,3,5,18,19,20]) (c15_13)
def c15_23:AC :=
 .seq (.region 0 [bC 0 206 .eql 36 (.i 6),mV 1 205 206] [0,3,5,36,205]) (.cond (.t 205) (c15_21) (.seq (.region 0 [bC 0 239 .eql 36 (.i 7),mV 1 238 239] [0,3,5,36,238]) (.cond (.t 238) (c15_19) (c15_20))))
def c15_24:AC :=
 .seq (.region 0 [mV 0 128 0,nC 1 129 128,fA 2 130 0 129,lD 3 131 130,fA 4 132 1 3,lD 5 133 132,aB 6 134 18 131 133,mV 7 127 134,eX 8 135 127 0,eX 9 136 127 1,eX 10 137 127 2,mV 11 12 135,mV 12 13 136,mV 13 14 137] [0,3,5,12,13,14]) (c15_11)
def c15_25:AC :=
 .seq (.region 0 [bC 0 126 .eql 36 (.i 4),mV 1 125 126] [0,3,5,36,125]) (.cond (.t 125) (c15_24) (.seq (.region 0 [bC 0 163 .eql 36 (.i 5),mV 1 162 163] [0,3,5,36,162]) (.cond (.t 162) (c15_22) (c15_23))))
def c15_26:AC :=
 .cond (.t 41) (.skip) (.seq (.region 0 [bC 0 44 .eql 36 (.i 2),mV 1 41 44] [0,3,5,36,41]) (.cond (.t 41) (.skip) (.region 0 [bC 0 45 .eql 36 (.i 3),mV 1 41 45] [0,3,5,36,41])))
def c15_27:AC :=
 .seq (.seq (.region 0 [bC 0 42 .eql 36 (.i 0),mV 1 41 42] [0,3,5,36,41]) (.cond (.t 41) (.skip) (.seq (.region 0 [bC 0 43 .eql 36 (.i 1),mV 1 41 43] [0,3,5,36,41]) (c15_26)))) (.cond (.t 41) (.seq (.region 0 [mC 0 7 (.i 0),mC 1 8 (.i 0)] [0,3,5]) (.seq (.region 0 [mC 0 9 (.i 0)] [0,3,5]) (c15_9))) (c15_25))
def c15_28:AC :=
 .seq (.seq (.region 0 [mV 0 274 5,lL 1 275 274,mC 2 276 (.i 0)] [5,6,275,276]) (.block 2 (.loop [5,6,275,276] (.seq (.region 0 [bB 0 277 .lss 276 275] [5,6,275,276,277]) (c15_1))))) (.seq (.region 0 [mV 0 288 6,mV 1 4 288] [4]) (.ret))
def c15_29:AC :=
 .seq (.region 0 [qQ 0 31 (.bslice 1 0 [] []),fA 1 32 4 3,lD 2 33 32,qQ 3 34 (.append 1 1 (.t 31) (.t 33)),mV 4 5 34] [0,3,5]) (.seq (.region 0 [mC 0 6 (.bool true)] [0,3,5]) (.seq (.seq (.region 0 [fA 0 35 0 3,lD 1 36 35] [0,3,5,36]) (.block 0 (c15_27))) (c15_28)))
def c15:AFn:=⟨2,289,[.tmp 4],(.seq (.region 0 [qQ 0 3 (.box 5 (.t 1)),mC 1 4 (.bool false)] [0,3]) (c15_29))⟩
def c16_0:AC :=
 .seq (.seq (.region 0 [mV 0 68 11,bC 1 69 .eql 68 (.i 0)] [11,69]) (.cond (.t 69) (.seq (.region 0 [mC 0 6 (.i 0),mC 1 7 (.i 113)] [6,7]) (.ret)) (.skip))) (.seq (.region 0 [mV 0 70 11,mV 1 6 70,mC 2 7 (.i 0)] [6,7]) (.ret))
def c16_1:AC :=
 .seq (.region 0 [mV 0 60 2,lL 1 61 60,bC 2 62 .eql 61 (.i 0),mV 3 59 62] [2,8,9,59]) (.cond (.t 59) (.seq (.region 0 [mC 0 6 (.i 0),mC 1 7 (.i 0)] [6,7]) (.ret)) (.skip))
def c16_2:AC :=
 .seq (.region 0 [mV 0 39 9,fA 1 40 2 8,lD 2 41 40,nC 3 42 39,fA 4 43 0 42,iA 5 44 2 7 43 41,fA 6 45 4 44,lD 7 46 45,mV 8 47 46,gM 9 48 9 47 false,gF 10 49 2 8 47 false,gL 11 50 49 47 false,gG 12 51 (.bin .sub (.c (.i 1)) (.t 50)) 47 false,gG 13 52 (.nilck (.t 48)) 47 false,gF 14 53 0 52 47 false,gG 15 54 (.ixaA 2 7 (.t 53) (.t 51)) 47 false,gF 16 55 0 54 47 false,gL 17 56 55 47 false,gG 18 57 (.bin .eql (.t 56) (.c (.i 3))) 47 false,pC 19 58 47 (.bool true) 57,mV 20 38 58] [2,8,9,38]) (.cond (.t 38) (.seq (.region 0 [mC 0 6 (.i 0),mC 1 7 (.i 114)] [6,7]) (.ret)) (c16_1))
def c16_3:AC :=
 .seq (.region 0 [mV 0 34 9,nC 1 35 34,fA 2 36 14 35,lD 3 37 36,mV 4 33 37] [2,8,9,33]) (.cond (.t 33) (.seq (.region 0 [mC 0 6 (.i 0),mC 1 7 (.i 115)] [6,7]) (.ret)) (c16_2))
def c16_4:AC :=
 .seq (.region 0 [mV 0 24 9,fA 1 25 2 8,lD 2 26 25,nC 3 27 24,fA 4 28 0 27,iA 5 29 2 7 28 26,fA 6 30 3 29,lD 7 31 30,qQ 8 32 (.un .not (.t 31)),mV 9 23 32] [2,8,9,23]) (.cond (.t 23) (.seq (.region 0 [mC 0 6 (.i 0),mC 1 7 (.i 111)] [6,7]) (.ret)) (c16_3))
def c16_5:AC :=
 .seq (.region 0 [mV 0 20 10,bC 1 21 .neq 20 (.i 0),mV 2 19 21] [2,8,9,10,19]) (.cond (.t 19) (.seq (.region 0 [mV 0 22 10,mC 1 6 (.i 0),mV 2 7 22] [6,7]) (.ret)) (c16_4))
def c16_6:AC :=
 .seq (.region 0 [mV 0 63 9,fA 1 64 2 8,lD 2 65 64,mV 3 66 2,aC 4 67 62 63 65 66,mV 5 11 67] [11]) (c16_0)
def c16_7:AC :=
 .seq (.region 0 [mV 0 13 0,mV 1 14 1,aB 2 15 44 13 14,mV 3 12 15,eX 4 16 12 0,eX 5 17 12 1,eX 6 18 12 2,qQ 7 8 (.alloc 3 [.bool false,.i 0,.i 0]),sT 8 3 8 16,mV 9 9 17,mV 10 10 18] [2,8,9,10]) (.seq (.block 0 (c16_5)) (c16_6))
def c16:AFn:=⟨3,71,[.tmp 6,.tmp 7],(.seq (.region 0 [mC 0 6 (.i 0),mC 1 7 (.i 0)] [0,1,2]) (c16_7))⟩
def c17_0:AC :=
 .seq (.region 0 [mV 0 45 6,lL 1 46 45,bC 2 47 .gtr 46 (.i 0)] [6,9,10,47]) (.cond (.t 47) (.seq (.region 0 [mV 0 48 6,mV 1 6 48,mC 2 7 (.bool false),mC 3 8 (.i 0)] [6,7,8]) (.ret)) (.skip))
def c17_1:AC :=
 .seq (.seq (.region 0 [mV 0 49 10,fA 1 50 2 9,lD 2 51 50,aB 3 52 46 49 51] [52]) (.cond (.t 52) (.seq (.region 0 [mC 0 6 (.nils),mC 1 7 (.bool true),mC 2 8 (.i 0)] [6,7,8]) (.ret)) (.skip))) (.seq (.region 0 [mC 0 6 (.nils),mC 1 7 (.bool false),mC 2 8 (.i 113)] [6,7,8]) (.ret))
def c17_2:AC :=
 .seq (.region 0 [mV 0 36 10,nC 1 37 36,fA 2 38 14 37,lD 3 39 38,mV 4 35 39] [2,9,10,35]) (.cond (.t 35) (.seq (.region 0 [mC 0 6 (.nils),mC 1 7 (.bool false),mC 2 8 (.i 115)] [6,7,8]) (.ret)) (.skip))
def c17_3:AC :=
 .seq (.region 0 [mV 0 33 2,bC 1 34 .lss 33 (.i 1),mV 2 32 34] [2,9,10,32]) (.cond (.t 32) (.seq (.region 0 [mC 0 6 (.nils),mC 1 7 (.bool false),mC 2 8 (.i 2)] [6,7,8]) (.ret)) (c17_2))
def c17_4:AC :=
 .seq (.region 0 [mV 0 23 10,fA 1 24 2 9,lD 2 25 24,nC 3 26 23,fA 4 27 0 26,iA 5 28 2 7 27 25,fA 6 29 2 28,lD 7 30 29,qQ 8 31 (.eq .ptr false (.t 30) (.c (.ptr none))),mV 9 22 31] [2,9,10,22]) (.cond (.t 22) (.seq (.region 0 [mC 0 6 (.nils),mC 1 7 (.bool false),mC 2 8 (.i 111)] [6,7,8]) (.ret)) (c17_3))
def c17_5:AC :=
 .seq (.region 0 [mV 0 19 8,bC 1 20 .neq 19 (.i 0),mV 2 18 20] [2,8,9,10,18]) (.cond (.t 18) (.seq (.region 0 [mV 0 21 8,mC 1 6 (.nils),mC 2 7 (.bool false),mV 3 8 21] [6,7,8]) (.ret)) (c17_4))
def c17_6:AC :=
 .seq (.seq (.region 0 [mV 0 40 10,fA 1 41 2 9,lD 2 42 41,mV 3 43 2,aC 4 44 63 40 42 43,mV 5 6 44] [6,9,10]) (c17_0)) (c17_1)
def c17_7:AC :=
 .seq (.region 0 [mV 0 12 0,mV 1 13 1,aB 2 14 44 12 13,mV 3 11 14,eX 4 15 11 0,eX 5 16 11 1,eX 6 17 11 2,qQ 7 9 (.alloc 3 [.bool false,.i 0,.i 0]),sT 8 3 9 15,mV 9 10 16,mV 10 8 17] [2,8,9,10]) (.seq (.block 0 (c17_5)) (c17_6))
def c17:AFn:=⟨3,53,[.tmp 6,.tmp 7,.tmp 8],(.seq (.region 0 [mC 0 6 (.nils),mC 1 7 (.bool false),mC 2 8 (.i 0)] [0,1,2]) (c17_7))⟩
def c18_0:AC :=
 .seq (.region 0 [lD 0 70 2,mV 1 71 9,lD 2 72 5,qQ 3 73 (.build [.bool false,.i 0,.i 0] [(0,1,(.c (.bool true))),(1,1,(.t 72)),(2,1,(.c (.i 0)))]),nC 4 74 70,fA 5 75 0 74,iA 6 76 96 3 75 71,sT 7 3 76 73] [4,5,6,9]) (.seq (.region 0 [mV 0 77 9,lD 1 78 5,⟨2,none,.store 1 (.t 4) (.t 77),none,none,[(78,.load1 (.t 5),none)]⟩,sT 3 1 5 78,.mk4 4 none (.store 1 (.t 6) (.c (.i 0))) none] []) (.ret))
def c18_1:AC :=
 .seq (.region 0 [mV 0 59 10,mV 1 60 10,mV 2 61 9,nC 3 62 59,fA 4 63 0 62,qQ 5 64 (.ixaA 2 7 (.t 63) (.c (.i 0))),fA 6 65 0 64,nC 8 66 60,fA 9 67 0 66,.mk4 7 none (.store 1 (.t 65) (.c (.i 1))) none,qQ 10 68 (.ixaA 2 7 (.t 67) (.c (.i 0))),fA 11 69 1 68,sT 12 1 69 61] [2,4,5,6,9]) (c18_0)
def c18_2:AC :=
 .seq (.region 0 [lD 0 52 2,nC 1 53 52,fA 2 54 288 53,lD 3 55 54,lD 4 56 5,iS 5 57 1 55 56,lD 6 58 57,mV 7 10 58] [2,4,5,6,9,10]) (c18_1)
def c18_3:AC :=
 .seq (.region 0 [lD 0 44 8,lD 1 45 8,nC 2 46 45,fA 3 47 16 46,lD 4 48 47,qQ 5 49 (.slice 1 (.t 48) (some (.c (.i 1))) none none),nC 6 50 44,fA 7 51 16 50,sT 8 1 51 49] [2,4,5,6,9]) (c18_2)
def c18_4:AC :=
 .seq (.region 0 [lD 0 38 8,nC 1 39 38,fA 2 40 16 39,lD 3 41 40,qQ 4 42 (.ixaS 1 (.t 41) (.c (.i 0))),lD 5 43 42,sT 6 1 5 43] [2,4,5,6,8,9]) (c18_3)
def c18_5:AC :=
 .seq (.region 0 [lD 0 29 8,nC 1 30 29,fA 2 31 16 30,lD 3 32 31,lL 4 33 32,bC 5 34 .eql 33 (.i 0),mV 6 28 34] [2,4,5,6,8,28]) (.cond (.t 28) (.seq (.region 0 [.mk4 0 none (.store 1 (.t 4) (.c (.i 0))) none,.mk4 1 none (.store 1 (.t 5) (.c (.i 0))) none,.mk4 2 none (.store 1 (.t 6) (.c (.i 113))) none] [4,5,6]) (.ret)) (.skip))
def c18_6:AC :=
 .seq (.region 0 [lD 0 23 8,nC 1 24 23,fA 2 25 15 24,lD 3 26 25,bC 4 27 .eql 26 (.i 0),mV 5 22 27] [2,4,5,6,8,22]) (.cond (.t 22) (.seq (.region 0 [.mk4 0 none (.store 1 (.t 4) (.c (.i 0))) none,.mk4 1 none (.store 1 (.t 5) (.c (.i 0))) none,.mk4 2 none (.store 1 (.t 6) (.c (.i 111))) none] [4,5,6]) (.ret)) (c18_5))
def c18_7:AC :=
 .cond (.t 18) (.seq (.region 0 [lD 0 21 6,⟨1,none,.store 1 (.t 4) (.c (.i 0)),none,none,[(21,.load1 (.t 6),none)]⟩,⟨2,none,.store 1 (.t 5) (.c (.i 0)),none,none,[(21,.load1 (.t 6),none)]⟩,sT 3 1 6 21] [4,5,6]) (.ret)) (c18_6)
def c18_8:AC :=
 .seq (.seq (.region 0 [lD 0 35 2,aA 1 36 64 35] [2,4,5,6,8,36]) (.block 1 (.rangeFunc (.t 36) [37] [2,4,5,6,8] (.region 0 [mV 0 9 37] [2,4,5,6,8,9]) (.block 2 (c18_4))))) (.seq (.region 0 [.mk4 0 none (.store 1 (.t 4) (.c (.i 0))) none,.mk4 1 none (.store 1 (.t 5) (.c (.i 0))) none,.mk4 2 none (.store 1 (.t 6) (.c (.i 112))) none] [4,5,6]) (.ret))
def c18_9:AC :=
 .seq (.region 0 [lD 0 12 2,mV 1 13 1,aB 2 14 44 12 13,mV 3 11 14,eX 4 15 11 0,eX 5 16 11 1,eX 6 17 11 2,qQ 7 7 (.alloc 3 [.bool false,.i 0,.i 0]),qQ 8 8 (.alloc 1 [.ptr none]),sT 9 3 7 15,sT 10 1 8 16,sT 11 1 6 17] [2,4,5,6,8]) (.seq (.block 0 (.seq (.region 0 [lD 0 19 6,bC 1 20 .neq 19 (.i 0),mV 2 18 20] [2,4,5,6,8,18]) (c18_7))) (c18_8))
def c18:AFn:=⟨2,79,[.cell1 4,.cell1 5,.cell1 6],(.seq (.region 0 [qQ 0 2 (.box 1 (.t 0)),qQ 1 4 (.alloc 1 [.i 0]),qQ 2 5 (.alloc 1 [.i 0]),qQ 3 6 (.alloc 1 [.i 0])] [1,2,4,5,6]) (c18_9))⟩
def c19_0:AC :=
 .seq (.region 0 [mV 0 11 3,bC 1 12 .eql 11 (.i 0),mV 2 13 12,gM 3 14 2 13 true,gG 4 15 (.bin .eql (.t 14) (.c (.i 3))) 13 true,pT 5 16 13 15 (.bool false),mV 6 17 16,gM 7 18 1 17 true,gG 8 19 (.bslice 1 5 [.i 0,.i 0,.i 0,.i 0,.i 0] [(0,(.c (.i 0))),(1,(.c (.i 4))),(2,(.c (.i 4))),(3,(.c (.i 32))),(4,(.c (.i 0)))]) 17 true,gG 9 20 (.call 22 [(.t 18),(.t 19)]) 17 true,pT 10 21 17 20 (.bool false),mV 11 0 21] [0]) (.ret)
def c19_1:AC :=
 .seq (.region 0 [qQ 0 5 (.call 65 []),qQ 1 6 (.call 66 []),aB 2 7 21 5 6,mV 3 4 7,eX 4 8 4 0,eX 5 9 4 1,eX 6 10 4 2,mV 7 1 8,mV 8 2 9,mV 9 3 10] [1,2,3]) (c19_0)
def c19:AFn:=⟨0,22,[.tmp 0],(.seq (.region 0 [mC 0 0 (.bool false)] []) (c19_1))⟩
def c20_0:AC :=
 .region 0 [mV 0 32 8,mV 1 33 5,nC 2 34 33,fA 3 35 1 34,lD 4 36 35,mV 5 37 9,aB 6 38 67 36 37,qQ 7 39 (.bslice 7 1 [.bool false,.bool false,.bool false,.bool false,.bool false,.int .u64 0,.int .u64 0] [(0,(.t 38))]),qQ 8 40 (.append 7 24 (.t 32) (.t 39)),mV 9 8 40] [5,8,9]
def c20_1:AC :=
 .seq (.seq (.region 0 [mV 0 28 9,bC 1 29 .leq 28 (.i 95)] [5,8,9,29]) (.cond (.t 29) (.skip) (.exit 2))) (.seq (.block 3 (c20_0)) (.region 0 [mV 0 30 9,bC 1 31 .add 30 (.i 1),mV 2 9 31] [5,8,9]))
def c20_2:AC :=
 .seq (.seq (.region 0 [mC 0 9 (.i 0)] [5,8,9]) (.block 2 (.loop [5,8,9] (c20_1)))) (.seq (.region 0 [mV 0 41 5,mV 1 42 8,mV 2 2 41,mV 3 3 42,mC 4 4 (.bool true)] [2,3,4]) (.ret))
def c20_3:AC :=
 .seq (.region 0 [mV 0 26 7,qQ 1 27 (.un .not (.t 26))] [0,5,6,27]) (.cond (.t 27) (.seq (.region 0 [mC 0 2 (.ptr none),mC 1 3 (.nils),mC 2 4 (.bool false)] [2,3,4]) (.ret)) (.skip))
def c20_4:AC :=
 .seq (.region 0 [mV 0 20 5,mV 1 21 0,mV 2 22 6,iS 3 23 5 21 22,lN 4 24 5 23,aB 5 25 15 20 24,mV 6 7 25] [0,5,6,7]) (c20_3)
def c20_5:AC :=
 .seq (.seq (.region 0 [mV 0 14 6,mV 1 15 0,lL 2 16 15,bB 3 17 .lss 14 16] [0,5,6,17]) (.cond (.t 17) (.skip) (.exit 0))) (.seq (.block 1 (c20_4)) (.region 0 [mV 0 18 6,bC 1 19 .add 18 (.i 1),mV 2 6 19] [0,5,6]))
def c20_6:AC :=
 .seq (.seq (.region 0 [mV 0 10 0,aA 1 11 10 10,bC 2 12 .gtr 11 (.i 0)] [0,12]) (.cond (.t 12) (.seq (.region 0 [mC 0 2 (.ptr none),mC 1 3 (.nils),mC 2 4 (.bool false)] [2,3,4]) (.ret)) (.skip))) (.seq (.region 0 [qQ 0 13 (.call 11 []),mV 1 5 13] [0,5]) (.seq (.seq (.region 0 [mC 0 6 (.i 0)] [0,5,6]) (.block 0 (.loop [0,5,6] (c20_5)))) (.seq (.region 0 [mC 0 8 (.nils)] [5,8]) (c20_2))))
def c20:AFn:=⟨1,43,[.tmp 2,.tmp 3,.tmp 4],(.seq (.region 0 [mC 0 2 (.ptr none),mC 1 3 (.nils),mC 2 4 (.bool false)] [0]) (c20_6))⟩
def c21_0:AC :=
 .seq (.region 0 [lD 0 21 8,mV 1 22 10,qQ 2 23 (.bslice 1 1 [.i 0] [(0,(.t 22))]),qQ 3 24 (.append 1 8 (.t 21) (.t 23)),sT 4 1 8 24] [9,10]) (.region 0 [lD 0 25 9,mV 1 26 10,qQ 2 27 (.minI [(.t 26),(.c (.i 1))]),bB 3 28 .add 25 27,sT 4 1 9 28] [])
def c21_1:AC :=
 .seq (.seq (.region 0 [mV 0 17 0,mV 1 18 1,aB 2 19 69 17 18] [8,9,19]) (.block 0 (.rangeFunc (.t 19) [20] [8,9] (.region 0 [mV 0 10 20] [8,9,10]) (.block 1 (c21_0))))) (.seq (.region 0 [lD 0 29 8,lD 1 30 9,mV 2 4 29,mV 3 5 30,mC 4 6 (.i 0)] [4,5,6]) (.ret))
def c21_2:AC :=
 .seq (.region 0 [mV 0 14 7,bC 1 15 .neq 14 (.i 0)] [0,1,7,15]) (.cond (.t 15) (.seq (.region 0 [mV 0 16 7,mC 1 4 (.nils),mC 2 5 (.i 0),mV 3 6 16] [4,5,6]) (.ret)) (.skip))
def c21_3:AC :=
 .seq (.seq (.region 0 [mV 0 11 0,mV 1 12 1,aB 2 13 68 11 12,mV 3 7 13] [0,1,7]) (c21_2)) (.seq (.region 0 [qQ 0 8 (.alloc 1 [.nils])] [0,1,8]) (.seq (.region 0 [qQ 0 9 (.alloc 1 [.i 0]),.mk4 1 none (.store 1 (.t 9) (.c (.i 0))) none] [0,1,8,9]) (c21_1)))
def c21:AFn:=⟨2,31,[.tmp 4,.tmp 5,.tmp 6],(.seq (.region 0 [mC 0 4 (.nils),mC 1 5 (.i 0),mC 2 6 (.i 0)] [0,1]) (c21_3))⟩
def c22_0:AC :=
 .seq (.region 0 [mV 0 17 0,mV 1 18 5,iS 2 19 1 17 18,lD 3 20 19,mV 4 21 1,mV 5 22 5,iS 6 23 1 21 22,lD 7 24 23,bB 8 25 .neq 20 24] [0,1,5,25]) (.cond (.t 25) (.seq (.region 0 [mC 0 4 (.bool false)] [4]) (.ret)) (.skip))
def c22_1:AC :=
 .seq (.seq (.region 0 [mV 0 11 5,mV 1 12 0,lL 2 13 12,bB 3 14 .lss 11 13] [0,1,5,14]) (.cond (.t 14) (.skip) (.exit 0))) (.seq (.block 1 (c22_0)) (.region 0 [mV 0 15 5,bC 1 16 .add 15 (.i 1),mV 2 5 16] [0,1,5]))
def c22_2:AC :=
 .seq (.seq (.region 0 [mV 0 6 0,lL 1 7 6,mV 2 8 1,lL 3 9 8,bB 4 10 .neq 7 9] [0,1,10]) (.cond (.t 10) (.seq (.region 0 [mC 0 4 (.bool false)] [4]) (.ret)) (.skip))) (.seq (.seq (.region 0 [mC 0 5 (.i 0)] [0,1,5]) (.block 0 (.loop [0,1,5] (c22_1)))) (.seq (.region 0 [mC 0 4 (.bool true)] [4]) (.ret)))
def c22:AFn:=⟨2,26,[.tmp 4],(.seq (.region 0 [mC 0 4 (.bool false)] [0,1]) (c22_2))⟩
def c23_0:AC :=
 .rangeFunc (.t 13) [14] [5] (.region 0 [mV 0 6 14] [5,6]) (.block 1 (.seq (.region 0 [mV 0 15 6,bC 1 16 .neq 15 (.i 0)] [5,16]) (.cond (.t 16) (.seq (.region 0 [.mk4 0 none (.store 1 (.t 5) (.c (.bool true))) none] []) (.exit 0)) (.skip))))
def c23_1:AC :=
 .seq (.label 0) (.seq (.seq (.region 0 [mV 0 11 0,mV 1 12 1,aB 2 13 69 11 12] [5,13]) (.block 0 (c23_0))) (.seq (.region 0 [lD 0 17 5,mV 1 4 17] [4]) (.ret)))
def c23_2:AC :=
 .scope (.seq (.seq (.region 0 [mV 0 7 0,mV 1 8 1,aB 2 9 68 7 8,bC 3 10 .neq 9 (.i 0)] [0,1,10]) (.cond (.t 10) (.seq (.region 0 [mC 0 4 (.bool true)] [4]) (.ret)) (.skip))) (.seq (.region 0 [qQ 0 5 (.alloc 1 [.bool false]),.mk4 1 none (.store 1 (.t 5) (.c (.bool false))) none] [0,1,5]) (c23_1)))
def c23:AFn:=⟨2,18,[.tmp 4],(.seq (.region 0 [mC 0 4 (.bool false)] [0,1]) (c23_2))⟩
def c28_0:AC :=
 .seq (.region 0 [lN 0 63 2 9,mV 1 64 12,aB 2 65 35 63 64,mV 3 62 65,eX 4 66 62 0,eX 5 67 62 1,sT 6 2 9 66] [10]) (.region 0 [lD 0 68 10,bC 1 69 .add 68 (.i 1),sT 2 1 10 69] [])
def c28_1:AC :=
 .seq (.region 0 [lN 0 52 2 8,mV 1 53 12,aB 2 54 35 52 53,mV 3 51 54,eX 4 55 51 0,eX 5 56 51 1,sT 6 2 8 55] [9,10,12,13]) (.region 0 [lD 0 57 10,bC 1 58 .add 57 (.i 1),sT 2 1 10 58] [9,10,12,13])
def c28_2:AC :=
 .seq (.seq (.region 0 [mV 0 48 13,bC 1 49 .and 48 (.i 2),bC 2 50 .neq 49 (.i 0)] [8,9,10,12,13,50]) (.cond (.t 50) (c28_1) (.skip))) (.seq (.region 0 [mV 0 59 13,bC 1 60 .and 59 (.i 4),bC 2 61 .neq 60 (.i 0)] [9,10,12,61]) (.cond (.t 61) (c28_0) (.skip)))
def c28_3:AC :=
 .seq (.region 0 [mV 0 42 13,lD 1 43 4,mV 2 44 12,aB 3 45 13 43 44,aA 4 46 74 45,bB 5 47 .and 42 46,mV 6 13 47] [8,9,10,12,13]) (c28_2)
def c28_4:AC :=
 .seq (.region 0 [lN 0 70 2 8,lN 1 71 2 9,lD 2 72 10,⟨3,none,.store 2 (.t 8) (.t 70),none,none,[(71,.loadN 2 (.t 9),none),(72,.load1 (.t 10),none)]⟩,⟨4,none,.store 2 (.t 9) (.t 71),none,none,[(72,.load1 (.t 10),none)]⟩,sT 5 1 10 72,mC 6 11 (.i 0)] [8,9,10,11]) (.ret)
def c28_5:AC :=
 .seq (.region 0 [lN 0 34 2 8,lN 1 35 2 9,⟨2,none,.store 2 (.t 8) (.t 34),none,none,[(35,.loadN 2 (.t 9),none)]⟩,sT 3 2 9 35,.mk4 4 none (.store 1 (.t 10) (.c (.i 0))) none,mC 5 11 (.i 110)] [8,9,10,11]) (.ret)
def c28_6:AC :=
 .seq (.region 0 [lN 0 26 2 8,lN 1 27 2 9,⟨2,none,.store 2 (.t 8) (.t 26),none,none,[(27,.loadN 2 (.t 9),none)]⟩,sT 3 2 9 27,.mk4 4 none (.store 1 (.t 10) (.c (.i 0))) none,mC 5 11 (.i 2)] [8,9,10,11]) (.ret)
def c28_7:AC :=
 .seq (.region 0 [lD 0 29 4,mV 1 30 1,lN 2 31 2 6,lN 3 32 2 7,qQ 4 33 (.call 72 [(.t 29),(.t 30),(.t 31),(.t 32)]),mV 5 28 33] [1,4,6,7,8,9,10,28]) (.cond (.t 28) (c28_5) (.skip))
def c28_8:AC :=
 .seq (.region 0 [lN 0 17 2 8,lN 1 18 2 9,⟨2,none,.store 2 (.t 8) (.t 17),none,none,[(18,.loadN 2 (.t 9),none)]⟩,sT 3 2 9 18,.mk4 4 none (.store 1 (.t 10) (.c (.i 0))) none,mC 5 11 (.i 1)] [8,9,10,11]) (.ret)
def c28_9:AC :=
 .seq (.region 0 [mV 0 20 1,bC 1 21 .lss 20 (.i 0),mV 2 22 21,gM 3 23 1 22 false,gG 4 24 (.bin .gtr (.t 23) (.c (.i 64))) 22 false,pC 5 25 22 (.bool true) 24,mV 6 19 25] [1,4,6,7,8,9,10,19]) (.cond (.t 19) (c28_6) (c28_7))
def c28_10:AC :=
 .seq (.seq (.region 0 [mV 0 36 1,lN 1 37 2 6,lN 2 38 2 7,aC 3 39 73 36 37 38] [4,8,9,10,39]) (.block 1 (.rangeFunc (.t 39) [40,41] [4,8,9,10] (.seq (.region 0 [mV 0 12 40] [4,8,9,10,12,41]) (.region 0 [mV 0 13 41] [4,8,9,10,12,13])) (.block 2 (c28_3))))) (c28_4)
def c28_11:AC :=
 .seq (.region 0 [qQ 0 4 (.box 1 (.t 0)),qQ 1 6 (.box 2 (.t 2)),qQ 2 7 (.box 2 (.t 3)),qQ 3 8 (.alloc 2 [.int .u32 0,.int .u32 0]),qQ 4 9 (.alloc 2 [.int .u32 0,.int .u32 0]),qQ 5 10 (.alloc 1 [.i 0]),mC 6 11 (.i 0)] [1,4,6,7,8,9,10]) (.seq (.block 0 (.seq (.region 0 [lD 0 15 4,qQ 1 16 (.eq .ptr false (.t 15) (.c (.ptr none))),mV 2 14 16] [1,4,6,7,8,9,10,14]) (.cond (.t 14) (c28_8) (c28_9)))) (c28_10))
def c28:AFn:=⟨4,73,[.cellN 8 2,.cellN 9 2,.cell1 10,.tmp 11],(c28_11)⟩
def c29_0:AC :=
 .seq (.region 0 [mV 0 9 5,lD 1 10 3,bB 2 11 .geq 9 10] [2,5,11]) (.cond (.t 11) (.region 0 [lN 0 12 2 2,mV 1 13 5,aB 2 14 76 12 13,sT 3 2 2 14] []) (.skip))
def c29_1:AC :=
 .seq (.seq (.region 0 [lN 0 6 2 2,aA 1 7 75 6] [2,3,4,7]) (.block 0 (.rangeFunc (.t 7) [8] [2,3] (.region 0 [mV 0 5 8] [2,3,5]) (.block 1 (c29_0))))) (.seq (.region 0 [lN 0 15 2 2,sT 1 2 4 15] [4]) (.ret))
def c29:AFn:=⟨2,16,[.cellN 4 2],(.seq (.region 0 [qQ 0 2 (.box 2 (.t 0)),qQ 1 3 (.box 1 (.t 1)),qQ 2 4 (.alloc 2 [.int .u32 0,.int .u32 0])] [2,3,4]) (c29_1))⟩
def c31_0:AC :=
 .seq (.region 0 [qQ 0 5 (.ixaA 2 1 (.t 2) (.c (.i 0))),lD 1 6 5,qQ 2 7 (.ixaA 2 1 (.t 3) (.c (.i 0))),lD 3 8 7,bB 4 9 .or 6 8,qQ 5 10 (.ixaA 2 1 (.t 2) (.c (.i 1))),lD 6 11 10,qQ 7 12 (.ixaA 2 1 (.t 3) (.c (.i 1))),lD 8 13 12,bB 9 14 .or 11 13,qQ 10 15 (.build [.int .u32 0,.int .u32 0] [(0,1,(.t 9)),(1,1,(.t 14))]),sT 11 2 4 15] [4]) (.ret)
def c31:AFn:=⟨2,16,[.cellN 4 2],(.seq (.region 0 [qQ 0 2 (.box 2 (.t 0)),qQ 1 3 (.box 2 (.t 1)),qQ 2 4 (.alloc 2 [.int .u32 0,.int .u32 0])] [2,3,4]) (c31_0))⟩
def c34_0:AC :=
 .seq (.region 0 [mV 0 5 1,aA 1 6 79 5,mV 2 7 6,gM 3 8 1 7 true,gG 4 9 (.bin .quo (.t 8) (.c (.i 32))) 7 true,gG 5 10 (.ixaA 2 1 (.t 2) (.t 9)) 7 true,gL 6 11 10 7 true,gM 7 12 1 7 true,gG 8 13 (.bin .rem (.t 12) (.c (.i 32))) 7 true,gG 9 14 (.bin .shr (.t 11) (.t 13)) 7 true,gG 10 15 (.bin .and (.t 14) (.c (.int .u32 1))) 7 true,gG 11 16 (.bin .eql (.t 15) (.c (.int .u32 1))) 7 true,pT 12 17 7 16 (.bool false),mV 13 4 17] [4]) (.ret)
def c34:AFn:=⟨2,18,[.tmp 4],(.seq (.region 0 [qQ 0 2 (.box 2 (.t 0)),mC 1 4 (.bool false)] [1,2]) (c34_0))⟩
def c35_0:AC :=
 .seq (.region 0 [mV 0 10 1,bC 1 11 .quo 10 (.i 32),iA 2 12 2 1 2 11,lD 3 13 12,mV 4 14 1,bC 5 15 .rem 14 (.i 32),qQ 6 16 (.bin .shl (.c (.int .u32 1)) (.t 15)),bB 7 17 .or 13 16,iA 8 18 2 1 2 11,sT 9 1 18 17] [2,4]) (.seq (.region 0 [lN 0 19 2 2,sT 1 2 4 19,mC 2 5 (.i 0)] [4,5]) (.ret))
def c35_1:AC :=
 .seq (.seq (.region 0 [mV 0 6 1,aA 1 7 79 6,qQ 2 8 (.un .not (.t 7))] [1,2,4,8]) (.cond (.t 8) (.seq (.region 0 [qQ 0 9 (.build [.int .u32 0,.int .u32 0] []),sT 1 2 4 9,mC 2 5 (.i 10)] [4,5]) (.ret)) (.skip))) (c35_0)
def c35:AFn:=⟨2,20,[.cellN 4 2,.tmp 5],(.seq (.region 0 [qQ 0 2 (.box 2 (.t 0)),qQ 1 4 (.alloc 2 [.int .u32 0,.int .u32 0]),mC 2 5 (.i 0)] [1,2,4]) (c35_1))⟩
def c36_0:AC :=
 .seq (.seq (.region 0 [mV 0 9 0,bC 1 10 .and 9 (.i 4),bC 2 11 .neq 10 (.i 0)] [3,11]) (.cond (.t 11) (.region 0 [mV 0 12 3,bC 1 13 .or 12 (.i 4),mV 2 3 13] [3]) (.skip))) (.seq (.region 0 [mV 0 14 3,mV 1 2 14] [2]) (.ret))
def c36_1:AC :=
 .seq (.seq (.region 0 [mV 0 4 0,bC 1 5 .and 4 (.i 2),bC 2 6 .neq 5 (.i 0)] [0,3,6]) (.cond (.t 6) (.region 0 [mV 0 7 3,bC 1 8 .or 7 (.i 1),mV 2 3 8] [0,3]) (.skip))) (c36_0)
def c36:AFn:=⟨1,15,[.tmp 2],(.seq (.region 0 [mC 0 2 (.i 0)] [0]) (.seq (.region 0 [mC 0 3 (.i 0)] [0,3]) (c36_1)))⟩
def c37_0:AC :=
 .seq (.seq (.region 0 [mV 0 15 1,bC 1 16 .and 15 (.i 28),bC 2 17 .neq 16 (.i 0)] [0,6,17]) (.cond (.t 17) (.region 0 [mV 0 18 6,bC 1 19 .or 18 (.i 4),mV 2 6 19] [0,6]) (.skip))) (.seq (.region 0 [mV 0 20 6,mV 1 21 0,bB 2 22 .and 20 21,mV 3 4 22,mC 4 5 (.i 0)] [4,5]) (.ret))
def c37_1:AC :=
 .seq (.seq (.region 0 [mV 0 10 1,bC 1 11 .and 10 (.i 25),bC 2 12 .neq 11 (.i 0)] [0,1,6,12]) (.cond (.t 12) (.region 0 [mV 0 13 6,bC 1 14 .or 13 (.i 2),mV 2 6 14] [0,1,6]) (.skip))) (c37_0)
def c37_2:AC :=
 .seq (.seq (.region 0 [mV 0 7 1,bC 1 8 .and 7 (.i 32),bC 2 9 .neq 8 (.i 0)] [0,1,9]) (.cond (.t 9) (.seq (.region 0 [mC 0 4 (.i 0),mC 1 5 (.i 110)] [4,5]) (.ret)) (.skip))) (.seq (.region 0 [mC 0 6 (.i 0)] [0,1,6]) (c37_1))
def c37:AFn:=⟨2,23,[.tmp 4,.tmp 5],(.seq (.region 0 [mC 0 4 (.i 0),mC 1 5 (.i 0)] [0,1]) (c37_2))⟩
def c38_0:AC :=
 .seq (.region 0 [mV 0 23 12,bC 1 24 .neq 23 (.i 0),mV 2 25 24,gM 3 26 11 25 false,gG 4 27 (.bin .gtr (.t 26) (.c (.i 0))) 25 false,pC 5 28 25 (.bool true) 27,mV 6 8 28] [8]) (.ret)
def c38_1:AC :=
 .seq (.region 0 [mV 0 14 0,mV 1 15 1,lN 2 16 2 6,lN 3 17 2 7,qQ 4 18 (.call 28 [(.t 14),(.t 15),(.t 16),(.t 17)]),mV 5 13 18,eX 6 19 13 0,eX 7 20 13 1,eX 8 21 13 2,eX 9 22 13 3,qQ 10 9 (.alloc 2 [.int .u32 0,.int .u32 0]),qQ 11 10 (.alloc 2 [.int .u32 0,.int .u32 0]),sT 12 2 9 19,sT 13 2 10 20,mV 14 11 21,mV 15 12 22] [11,12]) (c38_0)
def c38:AFn:=⟨4,29,[.tmp 8],(.seq (.region 0 [qQ 0 6 (.box 2 (.t 2)),qQ 1 7 (.box 2 (.t 3)),mC 2 8 (.bool false)] [0,1,6,7]) (c38_1))⟩
def c39_0:AC :=
 .seq (.region 0 [qQ 0 1 (.call 80 []),qQ 1 2 (.build ((List.replicate 96 ([.bool false,.i 0,.i 0]:List V)).flatten++[.nils,.ptr none,.int .u64 0,.bool false,.i 0,.i 0]) [(289,1,(.t 1))]),qQ 2 3 (.box 294 (.t 2)),mV 3 0 3] [0]) (.ret)
def c39:AFn:=⟨0,4,[.tmp 0],(.seq (.region 0 [mC 0 0 (.ptr none)] []) (c39_0))⟩
def c40_0:AC :=
 .seq (.region 0 [mV 0 26 8,qQ 1 27 (.ixaS 1 (.t 26) (.c (.i 0))),lD 2 28 27,mV 3 29 0,nC 4 30 29,fA 5 31 288 30,lD 6 32 31,lL 7 33 32,bC 8 34 .sub 33 (.i 1),mV 9 4 28,mV 10 5 34,mC 11 6 (.i 0)] [4,5,6]) (.ret)
def c40_1:AC :=
 .seq (.seq (.region 0 [mV 0 23 6,bC 1 24 .neq 23 (.i 0)] [0,6,8,24]) (.cond (.t 24) (.seq (.region 0 [mV 0 25 6,mC 1 4 (.i 0),mC 2 5 (.i 0),mV 3 6 25] [4,5,6]) (.ret)) (.skip))) (c40_0)
def c40_2:AC :=
 .seq (.region 0 [mV 0 17 0,mV 1 18 1,mV 2 19 7,qQ 3 20 (.call 82 [(.t 17),(.t 18),(.c (.i 1)),(.t 19)]),mV 4 16 20,eX 5 21 16 0,eX 6 22 16 1,mV 7 8 21,mV 8 6 22] [0,6,8]) (c40_1)
def c40_3:AC :=
 .seq (.region 0 [mV 0 11 7,nC 1 12 11,fA 2 13 0 12,qQ 3 14 (.ixaA 2 7 (.t 13) (.c (.i 1))),fA 4 15 0 14,.mk4 5 none (.store 1 (.t 15) (.c (.i 2))) none] [0,1,7]) (c40_2)
def c40_4:AC :=
 .seq (.region 0 [mC 0 4 (.i 0),mC 1 5 (.i 0),mC 2 6 (.i 0)] [0,1]) (.seq (.region 0 [mV 0 9 1,aA 1 10 81 9,mV 2 7 10] [0,1,7]) (c40_3))
def c40:AFn:=⟨2,35,[.tmp 4,.tmp 5,.tmp 6],(c40_4)⟩
def c41_0:AC :=
 .seq (.region 0 [mV 0 26 8,nC 1 27 26,fA 2 28 0 27,qQ 3 29 (.ixaA 2 7 (.t 28) (.c (.i 1))),fA 4 30 4 29,lD 5 31 30,mV 6 32 31,gM 7 33 8 32 false,gG 8 34 (.nilck (.t 33)) 32 false,gF 9 35 0 34 32 false,gG 10 36 (.ixaA 2 7 (.t 35) (.c (.i 0))) 32 false,gF 11 37 0 36 32 false,gL 12 38 37 32 false,gG 13 39 (.bin .eql (.t 38) (.c (.i 3))) 32 false,pC 14 40 32 (.bool true) 39,mV 15 25 40] [2,8,25]) (.cond (.t 25) (.seq (.region 0 [mC 0 6 (.i 0),mC 1 7 (.i 114)] [6,7]) (.ret)) (.skip))
def c41_1:AC :=
 .seq (.region 0 [mV 0 21 8,nC 1 22 21,fA 2 23 14 22,lD 3 24 23,mV 4 20 24] [2,8,20]) (.cond (.t 20) (.seq (.region 0 [mC 0 6 (.i 0),mC 1 7 (.i 115)] [6,7]) (.ret)) (c41_0))
def c41_2:AC :=
 .seq (.region 0 [mV 0 17 9,bC 1 18 .neq 17 (.i 0),mV 2 16 18] [2,8,9,16]) (.cond (.t 16) (.seq (.region 0 [mV 0 19 9,mC 1 6 (.i 0),mV 2 7 19] [6,7]) (.ret)) (c41_1))
def c41_3:AC :=
 .seq (.region 0 [mV 0 11 0,mV 1 12 1,aB 2 13 83 11 12,mV 3 10 13,eX 4 14 10 0,eX 5 15 10 1,mV 6 8 14,mV 7 9 15] [2,8,9]) (.seq (.block 0 (c41_2)) (.seq (.region 0 [mV 0 41 8,mV 1 42 2,qQ 2 43 (.call 62 [(.t 41),(.c (.i 1)),(.t 42)]),mV 3 6 43,mC 4 7 (.i 0)] [6,7]) (.ret)))
def c41:AFn:=⟨3,44,[.tmp 6,.tmp 7],(.seq (.region 0 [mC 0 6 (.i 0),mC 1 7 (.i 0)] [0,1,2]) (c41_3))⟩
def c42_0:AC :=
 .seq (.region 0 [mC 0 0 (.ptr none)] []) (.seq (.region 0 [qQ 0 1 (.build ([.nils,.int .u64 0]++List.replicate 32 (.bool false:V)++List.replicate 34 (.i 0:V)) [(66,1,(.c (.i (-1))))]),qQ 1 2 (.box 68 (.t 1)),mV 2 0 2] [0]) (.ret))
def c42:AFn:=⟨0,3,[.tmp 0],(c42_0)⟩
def c43_0:AC :=
 .seq (.region 0 [mV 0 3 0,qQ 1 4 (.eq .ptr false (.t 3) (.c (.ptr none))),mV 2 5 4,gM 3 6 0 5 false,gG 4 7 (.nilck (.t 6)) 5 false,gF 5 8 289 7 5 false,gL 6 9 8 5 false,gG 7 10 (.eq .ptr false (.t 9) (.c (.ptr none))) 5 false,pC 8 11 5 (.bool true) 10,mV 9 2 11] [2]) (.ret)
def c43:AFn:=⟨1,12,[.tmp 2],(.seq (.region 0 [mC 0 2 (.bool false)] [0]) (c43_0))⟩
def c44_0:AC :=
 .seq (.region 0 [mV 0 12 1,bC 1 13 .lss 12 (.i 0),mV 2 14 13,gM 3 15 1 14 false,gG 4 16 (.bin .gtr (.t 15) (.c (.i 95))) 14 false,pC 5 17 14 (.bool true) 16,mV 6 18 17,gM 7 19 0 18 false,gM 8 20 1 18 false,gG 9 21 (.nilck (.t 19)) 18 false,gF 10 22 0 21 18 false,gG 11 23 (.ixaA 96 3 (.t 22) (.t 20)) 18 false,gF 12 24 0 23 18 false,gL 13 25 24 18 false,gG 14 26 (.un .not (.t 25)) 18 false,pC 15 27 18 (.bool true) 26,mV 16 11 27] [0,1,4,11]) (.cond (.t 11) (.seq (.region 0 [qQ 0 28 (.build [.bool false,.i 0,.i 0] []),sT 1 3 4 28,mC 2 5 (.ptr none),mC 3 6 (.i 110)] [4,5,6]) (.ret)) (.skip))
def c44_1:AC :=
 .seq (.region 0 [mV 0 8 0,aA 1 9 43 8,mV 2 7 9] [0,1,4,7]) (.cond (.t 7) (.seq (.region 0 [qQ 0 10 (.build [.bool false,.i 0,.i 0] []),sT 1 3 4 10,mC 2 5 (.ptr none),mC 3 6 (.i 1)] [4,5,6]) (.ret)) (c44_0))
def c44_2:AC :=
 .seq (.region 0 [mV 0 29 0,mV 1 30 1,nC 2 31 29,fA 3 32 0 31,iA 4 33 96 3 32 30,lN 5 34 3 33,mV 6 35 0,nC 7 36 35,fA 8 37 288 36,lD 9 38 37,mV 10 39 0,mV 11 40 1,nC 12 41 39,fA 13 42 0 41,iA 14 43 96 3 42 40,fA 15 44 1 43,lD 16 45 44,iS 17 46 1 38 45,lD 18 47 46,⟨19,none,.store 3 (.t 4) (.t 34),none,none,[(38,.load1 (.t 37),none),(45,.load1 (.t 44),none),(47,.load1 (.t 46),none)]⟩,mV 20 5 47,mC 21 6 (.i 0)] [4,5,6]) (.ret)
def c44:AFn:=⟨2,48,[.cellN 4 3,.tmp 5,.tmp 6],(.seq (.region 0 [qQ 0 4 (.alloc 3 [.bool false,.i 0,.i 0]),mC 1 5 (.ptr none),mC 2 6 (.i 0)] [0,1,4]) (.seq (.block 0 (c44_1)) (c44_2)))⟩
def c45_0:AC :=
 .seq (.seq (.region 0 [mV 0 3 0,aA 1 4 84 3] [0,4]) (.cond (.t 4) (.seq (.region 0 [mC 0 2 (.i 0)] [2]) (.ret)) (.skip))) (.seq (.region 0 [mV 0 5 0,nC 1 6 5,fA 2 7 2 6,lD 3 8 7,mV 4 2 8] [2]) (.ret))
def c45:AFn:=⟨1,9,[.tmp 2],(.seq (.region 0 [mC 0 2 (.i 0)] [0]) (c45_0))⟩
def c46_0:AC :=
 .seq (.region 0 [mV 0 5 0,mV 1 6 1,qQ 2 7 (.bin .sub (.c (.i 1)) (.t 6)),nC 3 8 5,fA 4 9 0 8,iA 5 10 2 7 9 7,fA 6 11 0 10,lD 7 12 11,bC 8 13 .eql 12 (.i 3),mV 9 14 13,gM 10 15 0 14 false,gM 11 16 1 14 false,gG 12 17 (.bin .sub (.c (.i 1)) (.t 16)) 14 false,gG 13 18 (.nilck (.t 15)) 14 false,gF 14 19 0 18 14 false,gG 15 20 (.ixaA 2 7 (.t 19) (.t 17)) 14 false,gF 16 21 4 20 14 false,gL 17 22 21 14 false,pC 18 23 14 (.bool true) 22,mV 19 4 23] [4]) (.ret)
def c46:AFn:=⟨2,24,[.tmp 4],(.seq (.region 0 [mC 0 4 (.bool false)] [0,1]) (c46_0))⟩
def c47_0:AC :=
 .seq (.region 0 [mV 0 5 0,nC 1 6 5,fA 2 7 0 6,lD 3 8 7,lL 4 9 8,mV 5 10 0,nC 6 11 10,fA 7 12 2 11,lD 8 13 12,bB 9 14 .sub 9 13,mV 10 2 14] [2]) (.ret)
def c47:AFn:=⟨1,15,[.tmp 2],(.seq (.region 0 [mC 0 2 (.i 0)] [0]) (.seq (.seq (.region 0 [mV 0 3 0,aA 1 4 84 3] [0,4]) (.cond (.t 4) (.seq (.region 0 [mC 0 2 (.i 0)] [2]) (.ret)) (.skip))) (c47_0)))⟩
def c48_0:AC :=
 .seq (.region 0 [mV 0 21 0,nC 1 22 21,fA 2 23 0 22,lD 3 24 23,mV 4 25 6,mV 5 26 7,iS 6 27 20 24 25,fA 7 28 0 27,iA 8 29 2 8 28 26,fA 9 30 0 29,lD 10 31 30,bC 11 32 .eql 31 (.i 1),mV 12 33 32,gM 13 34 0 33 true,gG 14 35 (.nilck (.t 34)) 33 true,gF 15 36 0 35 33 true,gL 16 37 36 33 true,gM 17 38 6 33 true,gM 18 39 7 33 true,gG 19 40 (.ixaS 20 (.t 37) (.t 38)) 33 true,gF 20 41 0 40 33 true,gG 21 42 (.ixaA 2 8 (.t 41) (.t 39)) 33 true,gF 22 43 1 42 33 true,gL 23 44 43 33 true,gM 24 45 1 33 true,gG 25 46 (.bin .eql (.t 44) (.t 45)) 33 true,pT 26 47 33 46 (.bool false)] [0,1,6,7,47]) (.cond (.t 47) (.seq (.region 0 [mV 0 48 6,mV 1 49 7,mV 2 4 48,mV 3 5 49] [4,5]) (.ret)) (.skip))
def c48_1:AC :=
 .seq (.seq (.region 0 [mV 0 17 7,bC 1 18 .lss 17 (.i 2)] [0,1,6,7,18]) (.cond (.t 18) (.skip) (.exit 2))) (.seq (.block 3 (c48_0)) (.region 0 [mV 0 19 7,bC 1 20 .add 19 (.i 1),mV 2 7 20] [0,1,6,7]))
def c48_2:AC :=
 .seq (.seq (.region 0 [mV 0 8 6,mV 1 9 0,nC 2 10 9,fA 3 11 0 10,lD 4 12 11,lL 5 13 12,bB 6 14 .lss 8 13] [0,1,6,14]) (.cond (.t 14) (.skip) (.exit 0))) (.seq (.block 1 (.seq (.region 0 [mC 0 7 (.i 0)] [0,1,6,7]) (.block 2 (.loop [0,1,6,7] (c48_1))))) (.region 0 [mV 0 15 6,bC 1 16 .add 15 (.i 1),mV 2 6 16] [0,1,6]))
def c48_3:AC :=
 .seq (.region 0 [mC 0 4 (.i 0),mC 1 5 (.i 0)] [0,1]) (.seq (.seq (.region 0 [mC 0 6 (.i 0)] [0,1,6]) (.block 0 (.loop [0,1,6] (c48_2)))) (.seq (.region 0 [mC 0 4 (.i (-1)),mC 1 5 (.i (-1))] [4,5]) (.ret)))
def c48:AFn:=⟨2,50,[.tmp 4,.tmp 5],(c48_3)⟩
def c49_0:AC :=
 .seq (.region 0 [mV 0 31 8,qQ 1 32 (.ixaS 1 (.t 31) (.c (.i 0))),lD 2 33 32,mV 3 34 8,qQ 4 35 (.ixaS 1 (.t 34) (.c (.i 1))),lD 5 36 35,mV 6 4 33,mV 7 5 36,mC 8 6 (.i 0)] [4,5,6]) (.ret)
def c49_1:AC :=
 .seq (.seq (.region 0 [mV 0 28 6,bC 1 29 .neq 28 (.i 0)] [6,8,29]) (.cond (.t 29) (.seq (.region 0 [mV 0 30 6,mC 1 4 (.i 0),mC 2 5 (.i 0),mV 3 6 30] [4,5,6]) (.ret)) (.skip))) (c49_0)
def c49_2:AC :=
 .seq (.region 0 [mV 0 22 0,mV 1 23 1,mV 2 24 7,qQ 3 25 (.call 82 [(.t 22),(.t 23),(.c (.i 2)),(.t 24)]),mV 4 21 25,eX 5 26 21 0,eX 6 27 21 1,mV 7 8 26,mV 8 6 27] [6,8]) (c49_1)
def c49_3:AC :=
 .seq (.region 0 [mV 0 11 7,mV 1 12 7,nC 2 13 11,fA 3 14 0 13,qQ 4 15 (.ixaA 2 7 (.t 14) (.c (.i 0))),fA 5 16 3 15,nC 7 17 12,fA 8 18 0 17,.mk4 6 none (.store 1 (.t 16) (.c (.bool false))) none,qQ 9 19 (.ixaA 2 7 (.t 18) (.c (.i 1))),fA 10 20 2 19,.mk4 11 none (.store 1 (.t 20) (.c (.ptr none))) none] [0,1,7]) (c49_2)
def c49_4:AC :=
 .seq (.region 0 [mC 0 4 (.i 0),mC 1 5 (.i 0),mC 2 6 (.i 0)] [0,1]) (.seq (.region 0 [mV 0 9 1,aA 1 10 81 9,mV 2 7 10] [0,1,7]) (c49_3))
def c49:AFn:=⟨2,37,[.tmp 4,.tmp 5,.tmp 6],(c49_4)⟩
def c50_0:AC :=
 .seq (.region 0 [mV 0 19 7,qQ 1 20 (.ixaS 1 (.t 19) (.c (.i 0))),lD 2 21 20,mV 3 22 7,qQ 4 23 (.ixaS 1 (.t 22) (.c (.i 1))),lD 5 24 23,mV 6 4 21,mV 7 5 24,mC 8 6 (.i 0)] [4,5,6]) (.ret)
def c50_1:AC :=
 .seq (.seq (.region 0 [mV 0 16 6,bC 1 17 .neq 16 (.i 0)] [6,7,17]) (.cond (.t 17) (.seq (.region 0 [mV 0 18 6,mC 1 4 (.i 0),mC 2 5 (.i 0),mV 3 6 18] [4,5,6]) (.ret)) (.skip))) (c50_0)
def c50_2:AC :=
 .seq (.region 0 [mV 0 9 0,mV 1 10 1,mV 2 11 1,aA 3 12 81 11,qQ 4 13 (.call 82 [(.t 9),(.t 10),(.c (.i 2)),(.t 12)]),mV 5 8 13,eX 6 14 8 0,eX 7 15 8 1,mV 8 7 14,mV 9 6 15] [6,7]) (c50_1)
def c50:AFn:=⟨2,25,[.tmp 4,.tmp 5,.tmp 6],(.seq (.region 0 [mC 0 4 (.i 0),mC 1 5 (.i 0),mC 2 6 (.i 0)] [0,1]) (c50_2))⟩
def c51_0:AC :=
 .seq (.region 0 [mV 0 27 7,qQ 1 28 (.ixaS 1 (.t 27) (.c (.i 0))),lD 2 29 28,mV 3 30 0,nC 4 31 30,fA 5 32 288 31,lD 6 33 32,lL 7 34 33,bC 8 35 .sub 34 (.i 1),mV 9 4 29,mV 10 5 35,mC 11 6 (.i 0)] [4,5,6]) (.ret)
def c51_1:AC :=
 .seq (.seq (.region 0 [mV 0 24 6,bC 1 25 .neq 24 (.i 0)] [0,6,7,25]) (.cond (.t 25) (.seq (.region 0 [mV 0 26 6,mC 1 4 (.i 0),mC 2 5 (.i 0),mV 3 6 26] [4,5,6]) (.ret)) (.skip))) (c51_0)
def c51_2:AC :=
 .seq (.region 0 [mV 0 16 0,mV 1 17 1,mV 2 18 1,qQ 3 19 (.build [.i 0,.i 0,.ptr none,.bool false,.bool false,.int .u64 0,.int .u64 0,.i 0,.i 0,.ptr none,.bool false,.bool false,.int .u64 0,.int .u64 0,.bool false,.i 0,.nils] [(15,1,(.t 18))]),qQ 4 20 (.box 17 (.t 19)),qQ 5 21 (.call 82 [(.t 16),(.t 17),(.c (.i 1)),(.t 20)]),mV 6 15 21,eX 7 22 15 0,eX 8 23 15 1,mV 9 7 22,mV 10 6 23] [0,6,7]) (c51_1)
def c51_3:AC :=
 .seq (.seq (.region 0 [mV 0 8 0,aA 1 9 43 8,qQ 2 10 (.un .not (.t 9)),mV 3 11 10,gM 4 12 1 11 true,gG 5 13 (.bin .gtr (.t 12) (.c (.i 64))) 11 true,pT 6 14 11 13 (.bool false)] [0,1,14]) (.cond (.t 14) (.seq (.region 0 [mC 0 4 (.i 0),mC 1 5 (.i 0),mC 2 6 (.i 2)] [4,5,6]) (.ret)) (.skip))) (c51_2)
def c51:AFn:=⟨2,36,[.tmp 4,.tmp 5,.tmp 6],(.seq (.region 0 [mC 0 4 (.i 0),mC 1 5 (.i 0),mC 2 6 (.i 0)] [0,1]) (c51_3))⟩
def c52_0:AC :=
 .region 0 [mV 0 95 12,mV 1 96 9,mV 2 97 12,iS 3 98 1 96 97,lD 4 99 98,fA 5 100 0 10,iA 6 101 2 8 100 95,fA 7 102 1 101,sT 8 1 102 99] [0,8,9,10,12]
def c52_1:AC :=
 .seq (.block 3 (.seq (.region 0 [mV 0 91 12,fA 1 92 0 10,iA 2 93 2 8 92 91,fA 3 94 0 93,.mk4 4 none (.store 1 (.t 94) (.c (.i 1))) none] [0,8,9,10,12]) (c52_0))) (.region 0 [mV 0 89 12,bC 1 90 .add 89 (.i 1),mV 2 12 90] [0,8,9,10,12])
def c52_2:AC :=
 .seq (.region 1 [mV 0 103 0,mV 1 104 0,nC 2 105 104,fA 3 106 0 105,lD 4 107 106,lN 5 108 20 10,⟨6,(some 109),.bslice 20 1 [.i 0,.i 0,.bool false,.bool false,.nils,.bool false,.int .u64 0,.int .u64 0,.i 0,.i 0,.bool false,.bool false,.nils,.bool false,.int .u64 0,.int .u64 0,.i 0,.bool false,.i 0,.nils] [(0,(.t 108))],none,some 0,[]⟩,qQ 7 110 (.append 20 192 (.t 107) (.t 109)),nC 8 111 103,fA 9 112 0 111,sT 10 1 112 110] [8,9]) (.seq (.region 0 [mV 0 113 9,mV 1 114 8,qQ 2 115 (.slice 1 (.t 113) none (some (.t 114)) none),mV 3 6 115,mC 4 7 (.i 0)] [6,7]) (.ret))
def c52_3:AC :=
 .seq (.seq (.region 0 [mC 0 12 (.i 0)] [0,8,9,10,12]) (.block 2 (.loop [0,8,9,10,12] (.seq (.seq (.region 0 [mV 0 86 12,mV 1 87 8,bB 2 88 .lss 86 87] [0,8,9,10,12,88]) (.cond (.t 88) (.skip) (.exit 2))) (c52_1))))) (c52_2)
def c52_4:AC :=
 .seq (.seq (.region 0 [mV 0 82 1,bC 1 83 .eql 82 (.i 3)] [0,2,8,9,10,83]) (.cond (.t 83) (.region 0 [mV 0 84 2,fA 1 85 18 10,sT 2 1 85 84] [0,8,9,10]) (.skip))) (c52_3)
def c52_5:AC :=
 .region 0 [mV 0 63 11,mV 1 64 1,bC 2 65 .lss 64 (.i 3),mV 3 66 65,gM 4 67 1 66 true,gG 5 68 (.bin .gtr (.t 67) (.c (.i 0))) 66 true,gM 6 69 68 66 true,gM 7 70 11 69 false,gG 8 71 (.bin .eql (.t 70) (.c (.i 1))) 69 false,gG 9 72 (.pick (.t 69) (.c (.bool true)) (.t 71)) 66 true,pT 10 73 66 72 (.bool false),fA 11 74 0 10,iA 12 75 2 8 74 63,fA 13 76 3 75,sT 14 1 76 73] [0,1,2,8,9,10,11]
def c52_6:AC :=
 .seq (.region 0 [mV 0 49 11,mV 1 50 1,bC 2 51 .lss 50 (.i 3),mV 3 52 51,gM 4 53 1 52 true,gG 5 54 (.bin .gtr (.t 53) (.c (.i 0))) 52 true,gM 6 55 54 52 true,gM 7 56 11 55 false,gG 8 57 (.bin .eql (.t 56) (.c (.i 0))) 55 false,gG 9 58 (.pick (.t 55) (.c (.bool true)) (.t 57)) 52 true,pT 10 59 52 58 (.bool false),fA 11 60 0 10,iA 12 61 2 8 60 49,fA 13 62 2 61,sT 14 1 62 59] [0,1,2,8,9,10,11]) (c52_5)
def c52_7:AC :=
 .seq (.seq (.region 0 [mV 0 45 11,bC 1 46 .lss 45 (.i 2)] [0,1,2,8,9,10,11,46]) (.cond (.t 46) (.skip) (.exit 0))) (.seq (.block 1 (c52_6)) (.region 0 [mV 0 47 11,bC 1 48 .add 47 (.i 1),mV 2 11 48] [0,1,2,8,9,10,11]))
def c52_8:AC :=
 .seq (.seq (.region 0 [mV 0 77 1,bC 1 78 .eql 77 (.i 2)] [0,1,2,8,9,10,78]) (.cond (.t 78) (.region 0 [fA 0 79 0 10,qQ 1 80 (.ixaA 2 8 (.t 79) (.c (.i 1))),fA 2 81 0 80,.mk4 3 none (.store 1 (.t 81) (.c (.i 2))) none] [0,1,2,8,9,10]) (.skip))) (c52_4)
def c52_9:AC :=
 .seq (.region 0 [mV 0 43 2,qQ 1 44 (.build [.i 0,.i 0,.bool false,.bool false,.nils,.bool false,.int .u64 0,.int .u64 0,.i 0,.i 0,.bool false,.bool false,.nils,.bool false,.int .u64 0,.int .u64 0,.i 0,.bool false,.i 0,.nils] [(16,1,(.t 43))]),qQ 2 10 (.alloc 20 [.i 0,.i 0,.bool false,.bool false,.nils,.bool false,.int .u64 0,.int .u64 0,.i 0,.i 0,.bool false,.bool false,.nils,.bool false,.int .u64 0,.int .u64 0,.i 0,.bool false,.i 0,.nils]),sT 3 20 10 44] [0,1,2,8,9,10]) (.seq (.seq (.region 0 [mC 0 11 (.i 0)] [0,1,2,8,9,10,11]) (.block 0 (.loop [0,1,2,8,9,10,11] (c52_7)))) (c52_8))
def c52_10:AC :=
 .seq (.seq (.region 0 [mV 0 31 9,lL 1 32 31,mV 2 33 8,bB 3 34 .lss 32 33,mV 4 35 34,gM 5 36 0 35 false,gG 6 37 (.nilck (.t 36)) 35 false,gF 7 38 0 37 35 false,gL 8 39 38 35 false,gG 9 40 (.lenL (.t 39)) 35 false,gG 10 41 (.bin .geq (.t 40) (.c (.i 1000))) 35 false,pC 11 42 35 (.bool true) 41] [0,1,2,8,9,42]) (.cond (.t 42) (.seq (.region 0 [mC 0 6 (.nils),mC 1 7 (.i 112)] [6,7]) (.ret)) (.skip))) (c52_9)
def c52_11:AC :=
 .seq (.seq (.region 0 [mV 0 27 1,bC 1 28 .gtr 27 (.i 1)] [0,1,2,8,28]) (.cond (.t 28) (.region 0 [mC 0 8 (.i 1)] [0,1,2,8]) (.skip))) (.seq (.region 0 [mV 0 29 0,aA 1 30 85 29,mV 2 9 30] [0,1,2,8,9]) (c52_10))
def c52_12:AC :=
 .seq (.seq (.region 0 [mV 0 13 2,bC 1 14 .lss 13 (.i 1),mV 2 15 14,gM 3 16 2 15 false,gG 4 17 (.bin .gtr (.t 16) (.c (.i 65536))) 15 false,pC 5 18 15 (.bool true) 17,mV 6 19 18,gM 7 20 1 19 false,gG 8 21 (.bin .eql (.t 20) (.c (.i 3))) 19 false,gM 9 22 21 19 false,gM 10 23 2 22 true,gG 11 24 (.bin .gtr (.t 23) (.c (.i 64))) 22 true,gG 12 25 (.pick (.t 22) (.t 24) (.c (.bool false))) 19 false,pC 13 26 19 (.bool true) 25] [0,1,2,26]) (.cond (.t 26) (.seq (.region 0 [mC 0 6 (.nils),mC 1 7 (.i 2)] [6,7]) (.ret)) (.skip))) (.seq (.region 0 [mC 0 8 (.i 2)] [0,1,2,8]) (c52_11))
def c52:AFn:=⟨3,116,[.tmp 6,.tmp 7],(.seq (.region 0 [mC 0 6 (.nils),mC 1 7 (.i 0)] [0,1,2]) (c52_12))⟩
def c53_0:AC :=
 .seq (.region 0 [mV 0 33 0,mV 1 34 3,qQ 2 35 (.ixaS 1 (.t 34) (.c (.i 0))),lD 3 36 35,bB 4 37 .eql 33 36,mV 5 38 37,gM 6 39 1 38 true,gM 7 40 3 38 true,gG 8 41 (.ixaS 1 (.t 40) (.c (.i 1))) 38 true,gL 9 42 41 38 true,gG 10 43 (.bin .eql (.t 39) (.t 42)) 38 true,pT 11 44 38 43 (.bool false),mV 12 12 44] [12]) (.ret)
def c53_1:AC :=
 .seq (.region 0 [mV 0 45 0,mV 1 46 3,qQ 2 47 (.ixaS 1 (.t 46) (.c (.i 0))),lD 3 48 47,bB 4 49 .eql 45 48,mV 5 50 49,gM 6 51 1 50 true,gM 7 52 4 50 true,gG 8 53 (.bin .eql (.t 51) (.t 52)) 50 true,pT 9 54 50 53 (.bool false),mV 10 12 54] [12]) (.ret)
def c53_2:AC :=
 .seq (.region 0 [mV 0 19 2,mV 1 20 5,bB 2 21 .eql 19 20,mV 3 22 21,gM 4 23 0 22 true,gG 5 24 (.bin .eql (.t 23) (.c (.i 0))) 22 true,pT 6 25 22 24 (.bool false),mV 7 26 25,gM 8 27 1 26 true,gG 9 28 (.bin .eql (.t 27) (.c (.i 0))) 26 true,pT 10 29 26 28 (.bool false),mV 11 12 29] [12]) (.ret)
def c53_3:AC :=
 .seq (.seq (.region 0 [mV 0 13 5,bC 1 14 .neq 13 (.i 0),mV 2 15 14,gM 3 16 2 15 false,gG 4 17 (.bin .neq (.t 16) (.c (.i 0))) 15 false,pC 5 18 15 (.bool true) 17] [0,1,2,3,4,5,18]) (.cond (.t 18) (c53_2) (.skip))) (.seq (.seq (.region 0 [mV 0 30 3,lL 1 31 30,bC 2 32 .eql 31 (.i 2)] [0,1,3,4,32]) (.cond (.t 32) (c53_0) (.skip))) (c53_1))
def c53:AFn:=⟨6,55,[.tmp 12],(.seq (.region 0 [mC 0 12 (.bool false)] [0,1,2,3,4,5]) (c53_3))⟩
def c54_0:AC :=
 .seq (.region 0 [mV 0 90 9,qQ 1 91 (.ixaS 1 (.t 90) (.c (.i 0))),lD 2 92 91,mV 3 93 10,mV 4 4 92,mV 5 5 93,mC 6 6 (.i 0)] [4,5,6]) (.ret)
def c54_1:AC :=
 .seq (.region 0 [mV 0 78 0,nC 1 79 78,fA 2 80 0 79,lD 3 81 80,mV 4 82 10,mV 5 83 9,qQ 6 84 (.ixaS 1 (.t 83) (.c (.i 0))),lD 7 85 84,iS 8 86 20 81 82,fA 9 87 0 86,qQ 10 88 (.ixaA 2 8 (.t 87) (.c (.i 0))),fA 11 89 1 88,sT 12 1 89 85] [9,10]) (c54_0)
def c54_2:AC :=
 .seq (.region 0 [mV 0 69 0,nC 1 70 69,fA 2 71 0 70,lD 3 72 71,mV 4 73 10,iS 5 74 20 72 73,fA 6 75 0 74,qQ 7 76 (.ixaA 2 8 (.t 75) (.c (.i 0))),fA 8 77 0 76,.mk4 9 none (.store 1 (.t 77) (.c (.i 1))) none] [0,9,10]) (c54_1)
def c54_3:AC :=
 .seq (.region 0 [mV 0 53 0,nC 1 54 53,fA 2 55 0 54,lD 3 56 55,mV 4 57 7,mV 5 58 0,nC 6 59 58,fA 7 60 0 59,lD 8 61 60,mV 9 62 7,iS 10 63 20 61 62,fA 11 64 19 63,lD 12 65 64,qQ 13 66 (.slice 1 (.t 65) (some (.c (.i 1))) none none),iS 14 67 20 56 57,fA 15 68 19 67,sT 16 1 68 66] [0,9,10]) (c54_2)
def c54_4:AC :=
 .seq (.region 0 [mV 0 43 0,nC 1 44 43,fA 2 45 0 44,lD 3 46 45,mV 4 47 7,iS 5 48 20 46 47,fA 6 49 19 48,lD 7 50 49,qQ 8 51 (.ixaS 1 (.t 50) (.c (.i 0))),lD 9 52 51,mV 10 10 52] [0,7,9,10]) (c54_3)
def c54_5:AC :=
 .seq (.seq (.region 0 [mV 0 40 9,lL 1 41 40,bC 2 42 .eql 41 (.i 0)] [0,7,9,42]) (.cond (.t 42) (.seq (.region 0 [mC 0 4 (.i 0),mC 1 5 (.i 0),mC 2 6 (.i 112)] [4,5,6]) (.ret)) (.skip))) (c54_4)
def c54_6:AC :=
 .seq (.seq (.region 0 [mV 0 28 0,nC 1 29 28,fA 2 30 0 29,lD 3 31 30,mV 4 32 7,iS 5 33 20 31 32,fA 6 34 19 33,lD 7 35 34,lL 8 36 35,bC 9 37 .eql 36 (.i 0)] [0,7,37]) (.cond (.t 37) (.seq (.region 0 [mC 0 4 (.i 0),mC 1 5 (.i 0),mC 2 6 (.i 113)] [4,5,6]) (.ret)) (.skip))) (.seq (.region 0 [mV 0 38 0,aA 1 39 85 38,mV 2 9 39] [0,7,9]) (c54_5))
def c54_7:AC :=
 .seq (.seq (.region 0 [mV 0 19 0,nC 1 20 19,fA 2 21 0 20,lD 3 22 21,mV 4 23 7,iS 5 24 20 22 23,fA 6 25 18 24,lD 7 26 25,bC 8 27 .eql 26 (.i 0)] [0,7,27]) (.cond (.t 27) (.seq (.region 0 [mC 0 4 (.i 0),mC 1 5 (.i 0),mC 2 6 (.i 111)] [4,5,6]) (.ret)) (.skip))) (c54_6)
def c54_8:AC :=
 .seq (.seq (.region 0 [mV 0 17 7,bC 1 18 .lss 17 (.i 0)] [0,7,18]) (.cond (.t 18) (.seq (.region 0 [mC 0 4 (.i 0),mC 1 5 (.i 0),mC 2 6 (.i 110)] [4,5,6]) (.ret)) (.skip))) (c54_7)
def c54_9:AC :=
 .seq (.region 0 [mV 0 12 0,mV 1 13 1,aB 2 14 48 12 13,mV 3 11 14,eX 4 15 11 0,eX 5 16 11 1,mV 6 7 15,mV 7 8 16] [0,7]) (c54_8)
def c54:AFn:=⟨2,94,[.tmp 4,.tmp 5,.tmp 6],(.seq (.region 0 [mC 0 4 (.i 0),mC 1 5 (.i 0),mC 2 6 (.i 0)] [0,1]) (c54_9))⟩
def c55_0:AC :=
 .seq (.region 0 [mV 0 54 0,mV 1 55 9,mV 2 56 10,mV 3 57 2,qQ 4 58 (.call 86 [(.t 54),(.t 55),(.t 56),(.t 57)]),mV 5 6 58,mC 6 7 (.bool false),mC 7 8 (.i 0)] [6,7,8]) (.ret)
def c55_1:AC :=
 .seq (.seq (.region 0 [mV 0 59 0,nC 1 60 59,fA 2 61 0 60,lD 3 62 61,mV 4 63 9,mV 5 64 10,qQ 6 65 (.bin .sub (.c (.i 1)) (.t 64)),iS 7 66 20 62 63,fA 8 67 0 66,iA 9 68 2 8 67 65,fA 10 69 0 68,lD 11 70 69,bC 12 71 .eql 70 (.i 3),mV 13 72 71,gM 14 73 0 72 false,gG 15 74 (.nilck (.t 73)) 72 false,gF 16 75 0 74 72 false,gL 17 76 75 72 false,gM 18 77 9 72 false,gM 19 78 10 72 false,gG 20 79 (.bin .sub (.c (.i 1)) (.t 78)) 72 false,gG 21 80 (.ixaS 20 (.t 76) (.t 77)) 72 false,gF 22 81 0 80 72 false,gG 23 82 (.ixaA 2 8 (.t 81) (.t 79)) 72 false,gF 24 83 5 82 72 false,gL 25 84 83 72 false,pC 26 85 72 (.bool true) 84] [85]) (.cond (.t 85) (.seq (.region 0 [mC 0 6 (.nils),mC 1 7 (.bool true),mC 2 8 (.i 0)] [6,7,8]) (.ret)) (.skip))) (.seq (.region 0 [mC 0 6 (.nils),mC 1 7 (.bool false),mC 2 8 (.i 113)] [6,7,8]) (.ret))
def c55_2:AC :=
 .seq (.seq (.region 0 [mV 0 41 0,nC 1 42 41,fA 2 43 0 42,lD 3 44 43,mV 4 45 9,mV 5 46 10,iS 6 47 20 44 45,fA 7 48 0 47,iA 8 49 2 8 48 46,fA 9 50 4 49,lD 10 51 50,lL 11 52 51,bC 12 53 .gtr 52 (.i 0)] [0,2,9,10,53]) (.cond (.t 53) (c55_0) (.skip))) (c55_1)
def c55_3:AC :=
 .seq (.seq (.region 0 [mV 0 33 0,nC 1 34 33,fA 2 35 0 34,lD 3 36 35,mV 4 37 9,iS 5 38 20 36 37,fA 6 39 17 38,lD 7 40 39] [0,2,9,10,40]) (.cond (.t 40) (.seq (.region 0 [mC 0 6 (.nils),mC 1 7 (.bool false),mC 2 8 (.i 115)] [6,7,8]) (.ret)) (.skip))) (c55_2)
def c55_4:AC :=
 .seq (.seq (.region 0 [mV 0 31 2,bC 1 32 .lss 31 (.i 1)] [0,2,9,10,32]) (.cond (.t 32) (.seq (.region 0 [mC 0 6 (.nils),mC 1 7 (.bool false),mC 2 8 (.i 2)] [6,7,8]) (.ret)) (.skip))) (c55_3)
def c55_5:AC :=
 .seq (.seq (.region 0 [mV 0 19 0,nC 1 20 19,fA 2 21 0 20,lD 3 22 21,mV 4 23 9,mV 5 24 10,iS 6 25 20 22 23,fA 7 26 0 25,iA 8 27 2 8 26 24,fA 9 28 2 27,lD 10 29 28,qQ 11 30 (.un .not (.t 29))] [0,2,9,10,30]) (.cond (.t 30) (.seq (.region 0 [mC 0 6 (.nils),mC 1 7 (.bool false),mC 2 8 (.i 111)] [6,7,8]) (.ret)) (.skip))) (c55_4)
def c55_6:AC :=
 .seq (.seq (.region 0 [mV 0 17 9,bC 1 18 .lss 17 (.i 0)] [0,2,9,10,18]) (.cond (.t 18) (.seq (.region 0 [mC 0 6 (.nils),mC 1 7 (.bool false),mC 2 8 (.i 110)] [6,7,8]) (.ret)) (.skip))) (c55_5)
def c55_7:AC :=
 .seq (.region 0 [mV 0 12 0,mV 1 13 1,aB 2 14 48 12 13,mV 3 11 14,eX 4 15 11 0,eX 5 16 11 1,mV 6 9 15,mV 7 10 16] [0,2,9,10]) (c55_6)
def c55:AFn:=⟨3,86,[.tmp 6,.tmp 7,.tmp 8],(.seq (.region 0 [mC 0 6 (.nils),mC 1 7 (.bool false),mC 2 8 (.i 0)] [0,1,2]) (c55_7))⟩
def c56_0:AC :=
 .seq (.seq (.region 0 [mV 0 73 10,bC 1 74 .eql 73 (.i 0)] [10,74]) (.cond (.t 74) (.seq (.region 0 [mC 0 6 (.i 0),mC 1 7 (.i 113)] [6,7]) (.ret)) (.skip))) (.seq (.region 0 [mV 0 75 10,mV 1 6 75,mC 2 7 (.i 0)] [6,7]) (.ret))
def c56_1:AC :=
 .seq (.region 0 [mV 0 68 0,mV 1 69 8,mV 2 70 9,mV 3 71 2,qQ 4 72 (.call 87 [(.t 68),(.t 69),(.t 70),(.t 71)]),mV 5 10 72] [10]) (c56_0)
def c56_2:AC :=
 .seq (.seq (.region 0 [mV 0 65 2,lL 1 66 65,bC 2 67 .eql 66 (.i 0)] [0,2,8,9,67]) (.cond (.t 67) (.seq (.region 0 [mC 0 6 (.i 0),mC 1 7 (.i 0)] [6,7]) (.ret)) (.skip))) (c56_1)
def c56_3:AC :=
 .seq (.seq (.region 0 [mV 0 39 0,nC 1 40 39,fA 2 41 0 40,lD 3 42 41,mV 4 43 8,mV 5 44 9,iS 6 45 20 42 43,fA 7 46 0 45,iA 8 47 2 8 46 44,fA 9 48 5 47,lD 10 49 48,mV 11 50 49,gM 12 51 0 50 false,gG 13 52 (.nilck (.t 51)) 50 false,gF 14 53 0 52 50 false,gL 15 54 53 50 false,gM 16 55 8 50 false,gM 17 56 9 50 false,gG 18 57 (.bin .sub (.c (.i 1)) (.t 56)) 50 false,gG 19 58 (.ixaS 20 (.t 54) (.t 55)) 50 false,gF 20 59 0 58 50 false,gG 21 60 (.ixaA 2 8 (.t 59) (.t 57)) 50 false,gF 22 61 0 60 50 false,gL 23 62 61 50 false,gG 24 63 (.bin .eql (.t 62) (.c (.i 3))) 50 false,pC 25 64 50 (.bool true) 63] [0,2,8,9,64]) (.cond (.t 64) (.seq (.region 0 [mC 0 6 (.i 0),mC 1 7 (.i 114)] [6,7]) (.ret)) (.skip))) (c56_2)
def c56_4:AC :=
 .seq (.seq (.region 0 [mV 0 31 0,nC 1 32 31,fA 2 33 0 32,lD 3 34 33,mV 4 35 8,iS 5 36 20 34 35,fA 6 37 17 36,lD 7 38 37] [0,2,8,9,38]) (.cond (.t 38) (.seq (.region 0 [mC 0 6 (.i 0),mC 1 7 (.i 115)] [6,7]) (.ret)) (.skip))) (c56_3)
def c56_5:AC :=
 .seq (.seq (.region 0 [mV 0 19 0,nC 1 20 19,fA 2 21 0 20,lD 3 22 21,mV 4 23 8,mV 5 24 9,iS 6 25 20 22 23,fA 7 26 0 25,iA 8 27 2 8 26 24,fA 9 28 3 27,lD 10 29 28,qQ 11 30 (.un .not (.t 29))] [0,2,8,9,30]) (.cond (.t 30) (.seq (.region 0 [mC 0 6 (.i 0),mC 1 7 (.i 111)] [6,7]) (.ret)) (.skip))) (c56_4)
def c56_6:AC :=
 .seq (.region 0 [mV 0 12 0,mV 1 13 1,aB 2 14 48 12 13,mV 3 11 14,eX 4 15 11 0,eX 5 16 11 1,mV 6 8 15,mV 7 9 16] [0,2,8,9]) (.seq (.seq (.region 0 [mV 0 17 8,bC 1 18 .lss 17 (.i 0)] [0,2,8,9,18]) (.cond (.t 18) (.seq (.region 0 [mC 0 6 (.i 0),mC 1 7 (.i 110)] [6,7]) (.ret)) (.skip))) (c56_5))
def c56:AFn:=⟨3,76,[.tmp 6,.tmp 7],(.seq (.region 0 [mC 0 6 (.i 0),mC 1 7 (.i 0)] [0,1,2]) (c56_6))⟩
def c57_0:AC :=
 .seq (.region 0 [mV 0 20 6,fA 1 21 2 5,lD 2 22 21,nC 3 23 20,fA 4 24 0 23,iA 5 25 2 7 24 22,fA 6 26 2 25,lD 7 27 26,qQ 8 28 (.eq .ptr false (.t 27) (.c (.ptr none))),mV 9 29 28,gM 10 30 6 29 false,gF 11 31 2 5 29 false,gL 12 32 31 29 false,gG 13 33 (.nilck (.t 30)) 29 false,gF 14 34 0 33 29 false,gG 15 35 (.ixaA 2 7 (.t 34) (.t 32)) 29 false,gF 16 36 3 35 29 false,gL 17 37 36 29 false,gG 18 38 (.un .not (.t 37)) 29 false,pC 19 39 29 (.bool true) 38,mV 20 19 39] [5,6,19]) (.cond (.t 19) (.seq (.region 0 [mC 0 4 (.i 111)] [4]) (.ret)) (.skip))
def c57_1:AC :=
 .seq (.block 0 (.seq (.region 0 [mV 0 16 7,bC 1 17 .neq 16 (.i 0),mV 2 15 17] [5,6,7,15]) (.cond (.t 15) (.seq (.region 0 [mV 0 18 7,mV 1 4 18] [4]) (.ret)) (c57_0)))) (.seq (.region 0 [mV 0 40 6,fA 1 41 2 5,lD 2 42 41,aB 3 43 88 40 42] []) (.seq (.region 0 [mC 0 4 (.i 0)] [4]) (.ret)))
def c57_2:AC :=
 .seq (.region 0 [mV 0 9 0,mV 1 10 1,aB 2 11 44 9 10,mV 3 8 11,eX 4 12 8 0,eX 5 13 8 1,eX 6 14 8 2,qQ 7 5 (.alloc 3 [.bool false,.i 0,.i 0]),sT 8 3 5 12,mV 9 6 13,mV 10 7 14] [5,6,7]) (c57_1)
def c57:AFn:=⟨2,44,[.tmp 4],(.seq (.region 0 [mC 0 4 (.i 0)] [0,1]) (c57_2))⟩
def c58_0:AC :=
 .seq (.seq (.region 0 [mV 0 15 0,nC 1 16 15,fA 2 17 0 16,lD 3 18 17,mV 4 19 5,mV 5 20 6,iS 6 21 20 18 19,fA 7 22 0 21,iA 8 23 2 8 22 20,fA 9 24 2 23,lD 10 25 24,qQ 11 26 (.un .not (.t 25)),mV 12 27 26,gM 13 28 0 27 false,gG 14 29 (.nilck (.t 28)) 27 false,gF 15 30 0 29 27 false,gL 16 31 30 27 false,gM 17 32 5 27 false,gM 18 33 6 27 false,gG 19 34 (.ixaS 20 (.t 31) (.t 32)) 27 false,gF 20 35 0 34 27 false,gG 21 36 (.ixaA 2 8 (.t 35) (.t 33)) 27 false,gF 22 37 3 36 27 false,gL 23 38 37 27 false,gG 24 39 (.un .not (.t 38)) 27 false,pC 25 40 27 (.bool true) 39] [0,5,6,40]) (.cond (.t 40) (.seq (.region 0 [mC 0 4 (.i 111)] [4]) (.ret)) (.skip))) (.seq (.region 0 [mV 0 41 0,mV 1 42 5,mV 2 43 6,aC 3 44 89 41 42 43] []) (.seq (.region 0 [mC 0 4 (.i 0)] [4]) (.ret)))
def c58_1:AC :=
 .seq (.region 0 [mV 0 8 0,mV 1 9 1,aB 2 10 48 8 9,mV 3 7 10,eX 4 11 7 0,eX 5 12 7 1,mV 6 5 11,mV 7 6 12] [0,5,6]) (.seq (.seq (.region 0 [mV 0 13 5,bC 1 14 .lss 13 (.i 0)] [0,5,6,14]) (.cond (.t 14) (.seq (.region 0 [mC 0 4 (.i 110)] [4]) (.ret)) (.skip))) (c58_0))
def c58:AFn:=⟨2,45,[.tmp 4],(.seq (.region 0 [mC 0 4 (.i 0)] [0,1]) (c58_1))⟩
def c59_0:AC :=
 .region 0 [mV 0 39 0,nC 1 40 39,fA 2 41 288 40,lD 3 42 41,mV 4 43 9,iS 5 44 1 42 43,lD 6 45 44,qQ 7 46 (.call 90 [(.t 45),(.c (.i 0))])] [0,6,33,34,35]
def c59_1:AC :=
 .seq (.block 1 (.seq (.region 0 [iS 0 37 1 33 35,lD 1 38 37,mV 2 9 38] [0,6,9,33,34,35]) (c59_0))) (.region 0 [bC 0 47 .add 35 (.i 1),mV 1 35 47] [0,6,33,34,35])
def c59_2:AC :=
 .seq (.seq (.region 0 [mV 0 30 6,nC 1 31 30,fA 2 32 16 31,lD 3 33 32,lL 4 34 33,mC 5 35 (.i 0)] [0,6,33,34,35]) (.block 0 (.loop [0,6,33,34,35] (.seq (.region 0 [bB 0 36 .lss 35 34] [0,6,33,34,35,36]) (.seq (.cond (.t 36) (.skip) (.exit 0)) (c59_1)))))) (.seq (.region 0 [mV 0 48 6,nC 1 49 48,fA 2 50 16 49,.mk4 3 none (.store 1 (.t 50) (.c (.nils))) none] []) (.seq (.region 0 [mC 0 4 (.i 0)] [4]) (.ret)))
def c59_3:AC :=
 .seq (.region 0 [mV 0 20 0,mV 1 21 1,qQ 2 22 (.build [.bool false,.i 0,.i 0] []),nC 3 23 20,fA 4 24 0 23,iA 5 25 96 3 24 21,sT 6 3 25 22] [0,5,6]) (.seq (.region 0 [mV 0 26 6,fA 1 27 2 5,lD 2 28 27,aB 3 29 90 26 28] [0,6]) (c59_2))
def c59_4:AC :=
 .seq (.region 0 [mV 0 11 0,mV 1 12 1,aB 2 13 44 11 12,mV 3 10 13,eX 4 14 10 0,eX 5 15 10 1,eX 6 16 10 2,qQ 7 5 (.alloc 3 [.bool false,.i 0,.i 0]),sT 8 3 5 14,mV 9 6 15,mV 10 7 16] [0,1,5,6,7]) (.seq (.seq (.region 0 [mV 0 17 7,bC 1 18 .neq 17 (.i 0)] [0,1,5,6,7,18]) (.cond (.t 18) (.seq (.region 0 [mV 0 19 7,mV 1 4 19] [4]) (.ret)) (.skip))) (c59_3))
def c59:AFn:=⟨2,51,[.tmp 4],(.seq (.region 0 [mC 0 4 (.i 0)] [0,1]) (c59_4))⟩
def c60_0:AC :=
 .region 0 [mV 0 33 0,mV 1 34 0,nC 2 35 34,fA 3 36 0 35,lD 4 37 36,mV 5 38 5,iS 6 39 20 37 38,fA 7 40 19 39,lD 8 41 40,mV 9 42 7,iS 10 43 1 41 42,lD 11 44 43,qQ 12 45 (.call 91 [(.t 33),(.t 44),(.c (.i 0))])] [0,5,7]
def c60_1:AC :=
 .seq (.seq (.region 0 [mV 0 20 7,mV 1 21 0,nC 2 22 21,fA 3 23 0 22,lD 4 24 23,mV 5 25 5,iS 6 26 20 24 25,fA 7 27 19 26,lD 8 28 27,lL 9 29 28,bB 10 30 .lss 20 29] [0,5,7,30]) (.cond (.t 30) (.skip) (.exit 0))) (.seq (.block 1 (c60_0)) (.region 0 [mV 0 31 7,bC 1 32 .add 31 (.i 1),mV 2 7 32] [0,5,7]))
def c60_2:AC :=
 .seq (.region 0 [mV 0 46 0,nC 1 47 46,fA 2 48 0 47,lD 3 49 48,mV 4 50 5,iS 5 51 20 49 50,fA 6 52 19 51,.mk4 7 none (.store 1 (.t 52) (.c (.nils))) none] []) (.seq (.region 0 [mC 0 4 (.i 0)] [4]) (.ret))
def c60_3:AC :=
 .seq (.region 0 [mV 0 16 0,mV 1 17 5,mV 2 18 6,aC 3 19 91 16 17 18] [0,5]) (.seq (.seq (.region 0 [mC 0 7 (.i 0)] [0,5,7]) (.block 0 (.loop [0,5,7] (c60_1)))) (c60_2))
def c60_4:AC :=
 .seq (.region 0 [mV 0 9 0,mV 1 10 1,aB 2 11 48 9 10,mV 3 8 11,eX 4 12 8 0,eX 5 13 8 1,mV 6 5 12,mV 7 6 13] [0,5,6]) (.seq (.seq (.region 0 [mV 0 14 5,bC 1 15 .lss 14 (.i 0)] [0,5,6,15]) (.cond (.t 15) (.seq (.region 0 [mC 0 4 (.i 110)] [4]) (.ret)) (.skip))) (c60_3))
def c60:AFn:=⟨2,53,[.tmp 4],(.seq (.region 0 [mC 0 4 (.i 0)] [0,1]) (c60_4))⟩
def c61_0:AC :=
 .seq (.region 0 [mV 0 59 7,mV 1 60 9,bB 2 61 .eql 59 60,mV 3 62 61,gM 4 63 8 62 true,gM 5 64 10 62 true,gG 6 65 (.bin .eql (.t 63) (.t 64)) 62 true,pT 7 66 62 65 (.bool false),mV 8 6 66] [6]) (.ret)
def c61_1:AC :=
 .seq (.region 0 [mV 0 48 0,nC 1 49 48,fA 2 50 1 49,lD 3 51 50,fA 4 52 1 4,lD 5 53 52,fA 6 54 4 4,lD 7 55 54,aC 8 56 92 51 53 55,mV 9 47 56,eX 10 57 47 0,eX 11 58 47 1,mV 12 9 57,mV 13 10 58] [7,8,9,10]) (c61_0)
def c61_2:AC :=
 .seq (.region 0 [mV 0 93 11,qQ 1 94 (.ofBytes (.t 93)),mV 2 95 13,qQ 3 96 (.ofBytes (.t 95)),bB 4 97 .eql 94 96,mV 5 98 97,gM 6 99 12 98 true,gM 7 100 14 98 true,gG 8 101 (.bin .eql (.t 99) (.t 100)) 98 true,pT 9 102 98 101 (.bool false),mV 10 6 102] [6]) (.ret)
def c61_3:AC :=
 .seq (.region 0 [mV 0 82 0,nC 1 83 82,fA 2 84 1 83,lD 3 85 84,fA 4 86 1 4,lD 5 87 86,fA 6 88 2 4,lD 7 89 88,aC 8 90 94 85 87 89,mV 9 81 90,eX 10 91 81 0,eX 11 92 81 1,mV 12 13 91,mV 13 14 92] [11,12,13,14]) (c61_2)
def c61_4:AC :=
 .seq (.region 0 [mV 0 112 15,mV 1 113 0,nC 2 114 113,fA 3 115 1 114,lD 4 116 115,fA 5 117 1 4,lD 6 118 117,aB 7 119 96 116 118,bB 8 120 .eql 112 119,mV 9 6 120] [6]) (.ret)
def c61_5:AC :=
 .seq (.region 0 [mV 0 130 16,mV 1 131 0,nC 2 132 131,fA 3 133 1 132,lD 4 134 133,fA 5 135 1 4,lD 6 136 135,aB 7 137 98 134 136,bB 8 138 .eql 130 137,mV 9 6 138] [6]) (.ret)
def c61_6:AC :=
 .seq (.region 0 [mV 0 148 17,mV 1 149 0,nC 2 150 149,fA 3 151 1 150,lD 4 152 151,fA 5 153 1 4,lD 6 154 153,aB 7 155 100 152 154,bB 8 156 .eql 148 155,mV 9 6 156] [6]) (.ret)
def c61_7:AC :=
 .seq (.region 0 [mV 0 183 18,mV 1 184 20,bB 2 185 .eql 183 184,mV 3 186 185,gM 4 187 19 186 true,gM 5 188 21 186 true,gG 6 189 (.bin .eql (.t 187) (.t 188)) 186 true,pT 7 190 186 189 (.bool false),mV 8 6 190] [6]) (.ret)
def c61_8:AC :=
 .seq (.region 0 [mV 0 172 0,nC 1 173 172,fA 2 174 1 173,lD 3 175 174,fA 4 176 1 4,lD 5 177 176,fA 6 178 2 4,lD 7 179 178,aC 8 180 102 175 177 179,mV 9 171 180,eX 10 181 171 0,eX 11 182 171 1,mV 12 20 181,mV 13 21 182] [18,19,20,21]) (c61_7)
def c61_9:AC :=
 .region 0 [mV 0 200 0,nC 1 201 200,fA 2 202 1 201,lD 3 203 202,fA 4 204 3 4,lD 5 205 204,aB 6 206 104 203 205] []
def c61_10:AC :=
 .seq (.region 0 [mV 0 219 22,mV 1 220 0,nC 2 221 220,fA 3 222 1 221,lD 4 223 222,fA 5 224 1 4,lD 6 225 224,fA 7 226 2 4,lD 8 227 226,bC 9 228 .gtr 227 (.i 0),aC 10 229 106 223 225 228,bB 11 230 .eql 219 229,mV 12 6 230] [6]) (.ret)
def c61_11:AC :=
 .seq (.region 0 [mV 0 240 23,mV 1 241 0,nC 2 242 241,fA 3 243 1 242,lD 4 244 243,fA 5 245 1 4,lD 6 246 245,aB 7 247 108 244 246,bB 8 248 .eql 240 247,mV 9 6 248] [6]) (.ret)
def c61_12:AC :=
 .seq (.region 0 [mV 0 271 24,mV 1 272 26,iS 2 273 2 271 272,lN 3 274 2 273,mV 4 275 25,mV 5 276 26,iS 6 277 2 275 276,lN 7 278 2 277,qQ 8 279 (.eq (.agg [.int .i64,.int .i64]) true (.t 274) (.t 278))] [24,25,267,268,279]) (.cond (.t 279) (.seq (.region 0 [mC 0 6 (.bool false)] [6]) (.ret)) (.skip))
def c61_13:AC :=
 .seq (.cond (.t 269) (.skip) (.exit 1)) (.seq (.block 2 (.seq (.region 0 [mV 0 270 268,mV 1 26 270] [24,25,26,267,268]) (c61_12))) (.region 0 [bC 0 280 .add 268 (.i 1),mV 1 268 280] [24,25,267,268]))
def c61_14:AC :=
 .seq (.region 0 [mV 0 266 24,lL 1 267 266,mC 2 268 (.i 0)] [24,25,267,268]) (.block 1 (.loop [24,25,267,268] (.seq (.region 0 [bB 0 269 .lss 268 267] [24,25,267,268,269]) (c61_13))))
def c61_15:AC :=
 .seq (.seq (.region 0 [mV 0 261 24,lL 1 262 261,mV 2 263 25,lL 3 264 263,bB 4 265 .neq 262 264] [24,25,265]) (.cond (.t 265) (.seq (.region 0 [mC 0 6 (.bool false)] [6]) (.ret)) (.skip))) (c61_14)
def c61_16:AC :=
 .seq (.region 0 [mV 0 256 0,nC 1 257 256,fA 2 258 1 257,lD 3 259 258,aA 4 260 110 259,mV 5 25 260] [24,25]) (c61_15)
def c61_17:AC :=
 .seq (.region 0 [mV 0 292 27,mV 1 293 0,nC 2 294 293,fA 3 295 1 294,lD 4 296 295,fA 5 297 1 4,lD 6 298 297,fA 7 299 2 4,lD 8 300 299,aC 9 301 112 296 298 300,bB 10 302 .eql 292 301,mV 11 6 302] [6]) (.ret)
def c61_18:AC :=
 .seq (.region 0 [mV 0 325 28,mV 1 326 30,bB 2 327 .eql 325 326,mV 3 328 327,gM 4 329 29 328 true,gM 5 330 31 328 true,gG 6 331 (.bin .eql (.t 329) (.t 330)) 328 true,pT 7 332 328 331 (.bool false),mV 8 6 332] [6]) (.ret)
def c61_19:AC :=
 .seq (.region 0 [mV 0 316 0,nC 1 317 316,fA 2 318 1 317,lD 3 319 318,fA 4 320 1 4,lD 5 321 320,aB 6 322 114 319 321,mV 7 315 322,eX 8 323 315 0,eX 9 324 315 1,mV 10 30 323,mV 11 31 324] [28,29,30,31]) (c61_18)
def c61_20:AC :=
 .seq (.region 0 [mV 0 306 0,nC 1 307 306,fA 2 308 0 307,lD 3 309 308,fA 4 310 1 4,lD 5 311 310,aB 6 312 113 309 311,mV 7 305 312,eX 8 313 305 0,eX 9 314 305 1,mV 10 28 313,mV 11 29 314] [0,4,28,29]) (c61_19)
def c61_21:AC :=
 .seq (.region 0 [mV 0 283 0,nC 1 284 283,fA 2 285 0 284,lD 3 286 285,fA 4 287 1 4,lD 5 288 287,fA 6 289 2 4,lD 7 290 289,aC 8 291 111 286 288 290,mV 9 27 291] [0,4,27]) (c61_17)
def c61_22:AC :=
 .seq (.region 0 [mV 0 251 0,nC 1 252 251,fA 2 253 0 252,lD 3 254 253,aA 4 255 109 254,mV 5 24 255] [0,24]) (c61_16)
def c61_23:AC :=
 .seq (.region 0 [bC 0 282 .eql 33 (.i 19),mV 1 281 282] [0,4,33,281]) (.cond (.t 281) (c61_21) (.seq (.region 0 [bC 0 304 .eql 33 (.i 20),mV 1 303 304] [0,4,303]) (.cond (.t 303) (c61_20) (.skip))))
def c61_24:AC :=
 .seq (.region 0 [mV 0 233 0,nC 1 234 233,fA 2 235 0 234,lD 3 236 235,fA 4 237 1 4,lD 5 238 237,aB 6 239 107 236 238,mV 7 23 239] [0,4,23]) (c61_11)
def c61_25:AC :=
 .seq (.region 0 [mV 0 209 0,nC 1 210 209,fA 2 211 0 210,lD 3 212 211,fA 4 213 1 4,lD 5 214 213,fA 6 215 2 4,lD 7 216 215,bC 8 217 .gtr 216 (.i 0),aC 9 218 105 212 214 217,mV 10 22 218] [0,4,22]) (c61_10)
def c61_26:AC :=
 .seq (.region 0 [bC 0 232 .eql 33 (.i 17),mV 1 231 232] [0,4,33,231]) (.cond (.t 231) (c61_24) (.seq (.region 0 [bC 0 250 .eql 33 (.i 18),mV 1 249 250] [0,4,33,249]) (.cond (.t 249) (c61_22) (c61_23))))
def c61_27:AC :=
 .seq (.region 0 [mV 0 193 0,nC 1 194 193,fA 2 195 0 194,lD 3 196 195,fA 4 197 3 4,lD 5 198 197,aB 6 199 103 196 198] [0,4]) (c61_9)
def c61_28:AC :=
 .seq (.region 0 [mV 0 160 0,nC 1 161 160,fA 2 162 0 161,lD 3 163 162,fA 4 164 1 4,lD 5 165 164,fA 6 166 2 4,lD 7 167 166,aC 8 168 101 163 165 167,mV 9 159 168,eX 10 169 159 0,eX 11 170 159 1,mV 12 18 169,mV 13 19 170] [0,4,18,19]) (c61_8)
def c61_29:AC :=
 .seq (.region 0 [bC 0 192 .eql 33 (.i 15),mV 1 191 192] [0,4,33,191]) (.cond (.t 191) (c61_27) (.seq (.region 0 [bC 0 208 .eql 33 (.i 16),mV 1 207 208] [0,4,33,207]) (.cond (.t 207) (c61_25) (c61_26))))
def c61_30:AC :=
 .seq (.region 0 [mV 0 141 0,nC 1 142 141,fA 2 143 0 142,lD 3 144 143,fA 4 145 1 4,lD 5 146 145,aB 6 147 99 144 146,mV 7 17 147] [0,4,17]) (c61_6)
def c61_31:AC :=
 .seq (.region 0 [mV 0 123 0,nC 1 124 123,fA 2 125 0 124,lD 3 126 125,fA 4 127 1 4,lD 5 128 127,aB 6 129 97 126 128,mV 7 16 129] [0,4,16]) (c61_5)
def c61_32:AC :=
 .seq (.region 0 [bC 0 140 .eql 33 (.i 13),mV 1 139 140] [0,4,33,139]) (.cond (.t 139) (c61_30) (.seq (.region 0 [bC 0 158 .eql 33 (.i 14),mV 1 157 158] [0,4,33,157]) (.cond (.t 157) (c61_28) (c61_29))))
def c61_33:AC :=
 .seq (.region 0 [mV 0 105 0,nC 1 106 105,fA 2 107 0 106,lD 3 108 107,fA 4 109 1 4,lD 5 110 109,aB 6 111 95 108 110,mV 7 15 111] [0,4,15]) (c61_4)
def c61_34:AC :=
 .seq (.region 0 [mV 0 70 0,nC 1 71 70,fA 2 72 0 71,lD 3 73 72,fA 4 74 1 4,lD 5 75 74,fA 6 76 2 4,lD 7 77 76,aC 8 78 93 73 75 77,mV 9 69 78,eX 10 79 69 0,eX 11 80 69 1,mV 12 11 79,mV 13 12 80] [0,4,11,12]) (c61_3)
def c61_35:AC :=
 .seq (.region 0 [bC 0 104 .eql 33 (.i 11),mV 1 103 104] [0,4,33,103]) (.cond (.t 103) (c61_33) (.seq (.region 0 [bC 0 122 .eql 33 (.i 12),mV 1 121 122] [0,4,33,121]) (.cond (.t 121) (c61_31) (c61_32))))
def c61_36:AC :=
 .seq (.region 0 [mV 0 37 0,nC 1 38 37,fA 2 39 0 38,lD 3 40 39,fA 4 41 1 4,lD 5 42 41,mV 6 43 2,aC 7 44 41 40 42 43,mV 8 36 44,eX 9 45 36 0,eX 10 46 36 1,mV 11 7 45,mV 12 8 46] [0,4,7,8]) (c61_1)
def c61_37:AC :=
 .seq (.region 0 [bC 0 35 .eql 33 (.i 9),mV 1 34 35] [0,2,4,33,34]) (.cond (.t 34) (c61_36) (.seq (.region 0 [bC 0 68 .eql 33 (.i 10),mV 1 67 68] [0,4,33,67]) (.cond (.t 67) (c61_34) (c61_35))))
def c61_38:AC :=
 .seq (.region 0 [qQ 0 4 (.box 5 (.t 1)),mC 1 6 (.bool false)] [0,2,4]) (.seq (.seq (.region 0 [fA 0 32 0 4,lD 1 33 32] [0,2,4,33]) (.block 0 (c61_37))) (.seq (.region 0 [mC 0 6 (.bool true)] [6]) (.ret)))
def c61:AFn:=⟨3,333,[.tmp 6],(c61_38)⟩
def c62_0:AC :=
 .seq (.region 0 [mV 0 18 0,mV 1 19 1,qQ 2 20 (.bin .sub (.c (.i 1)) (.t 19)),mV 3 21 7,bC 4 22 .gtr 21 (.i 0),qQ 5 23 (.call 116 [(.t 18),(.t 20),(.t 22),(.c (.bool false))])] [7]) (.seq (.region 0 [mV 0 24 7,mV 1 6 24] [6]) (.ret))
def c62_1:AC :=
 .seq (.region 0 [mV 0 8 0,mV 1 9 1,qQ 2 10 (.bin .sub (.c (.i 1)) (.t 9)),nC 3 11 8,fA 4 12 0 11,iA 5 13 2 7 12 10,fA 6 14 2 13,lD 7 15 14,mV 8 16 2,aB 9 17 115 15 16,mV 10 7 17] [0,1,7]) (c62_0)
def c62:AFn:=⟨3,25,[.tmp 6],(.seq (.region 0 [mC 0 6 (.i 0)] [0,1,2]) (c62_1))⟩
def c63_0:AC :=
 .seq (.region 0 [mV 0 17 0,mV 1 18 1,qQ 2 19 (.bin .sub (.c (.i 1)) (.t 18)),mV 3 20 7,lL 4 21 20,bC 5 22 .gtr 21 (.i 0),qQ 6 23 (.call 116 [(.t 17),(.t 19),(.c (.bool false)),(.t 22)])] [7]) (.seq (.region 0 [mV 0 24 7,mV 1 6 24] [6]) (.ret))
def c63_1:AC :=
 .seq (.region 0 [mV 0 8 0,mV 1 9 1,nC 2 10 8,fA 3 11 0 10,iA 4 12 2 7 11 9,fA 5 13 2 12,lD 6 14 13,mV 7 15 2,aB 8 16 117 14 15,mV 9 7 16] [0,1,7]) (c63_0)
def c63:AFn:=⟨3,25,[.tmp 6],(.seq (.region 0 [mC 0 6 (.nils)] [0,1,2]) (c63_1))⟩
def c64:AFn:=⟨1,4,[.tmp 2],(.seq (.region 0 [qQ 0 1 (.box 1 (.t 0)),mC 1 2 (.nilfn)] [1]) (.seq (.region 0 [qQ 0 3 (.mkClo 118 [(.t 1)]),mV 1 2 3] [2]) (.ret)))⟩
def c65_0:AC :=
 .seq (.region 0 [mV 0 3 1,qQ 1 4 (.call 49 [(.t 3),(.c (.i 4))])] [1]) (.seq (.region 0 [mV 0 5 1,qQ 1 6 (.call 40 [(.t 5),(.c (.i 4))])] [1]) (.seq (.region 0 [mV 0 7 1,mV 1 0 7] [0]) (.ret)))
def c65:AFn:=⟨0,8,[.tmp 0],(.seq (.region 0 [mC 0 0 (.ptr none)] []) (.seq (.region 0 [qQ 0 2 (.call 39 []),mV 1 1 2] [1]) (c65_0)))⟩
def c66_0:AC :=
 .seq (.region 0 [qQ 0 1 (.build [.i 0,.i 0] [(0,1,(.c (.i 0))),(1,1,(.c (.i 1)))]),qQ 1 2 (.build [.i 0,.i 0] [(0,1,(.c (.i 1))),(1,1,(.c (.i 4)))]),qQ 2 3 (.build [.i 0,.i 0] [(0,1,(.c (.i 2))),(1,1,(.c (.i 5)))]),qQ 3 4 (.build [.i 0,.i 0] [(0,1,(.c (.i 9)))]),qQ 4 5 (.build [.i 0,.i 0] [(0,1,(.c (.i (-1)))),(1,1,(.c (.i 1)))]),qQ 5 6 (.bslice 2 5 [.i 0,.i 0,.i 0,.i 0,.i 0,.i 0,.i 0,.i 0,.i 0,.i 0] [(0,(.t 1)),(1,(.t 2)),(2,(.t 3)),(3,(.t 4)),(4,(.t 5))]),mV 6 0 6] [0]) (.ret)
def c66:AFn:=⟨0,7,[.tmp 0],(.seq (.region 0 [mC 0 0 (.nils)] []) (c66_0))⟩
def c67_0:AC :=
 .seq (.region 0 [mV 0 88 6,fA 1 89 0 7,iA 2 90 2 8 89 88,fA 3 91 3 90,lD 4 92 91,mV 5 93 92,gM 6 94 6 93 true,gF 7 95 0 7 93 true,gG 8 96 (.ixaA 2 8 (.t 95) (.t 94)) 93 true,gF 9 97 5 96 93 true,gL 10 98 97 93 true,gG 11 99 (.un .not (.t 98)) 93 true,pT 12 100 93 99 (.bool false),mV 13 101 100,gM 14 102 6 101 true,gG 15 103 (.bin .sub (.c (.i 1)) (.t 102)) 101 true,gF 16 104 0 7 101 true,gG 17 105 (.ixaA 2 8 (.t 104) (.t 103)) 101 true,gF 18 106 4 105 101 true,gL 19 107 106 101 true,gG 20 108 (.lenL (.t 107)) 101 true,gF 21 109 16 7 101 true,gL 22 110 109 101 true,gG 23 111 (.bin .lss (.t 108) (.t 110)) 101 true,gM 24 112 111 101 true,gM 25 113 9 112 false,gG 26 114 (.pick (.t 112) (.c (.bool true)) (.t 113)) 101 true,gM 27 115 114 101 true,gF 28 116 17 7 115 false,gL 29 117 116 115 false,gG 30 118 (.pick (.t 115) (.c (.bool true)) (.t 117)) 101 true,pT 31 119 101 118 (.bool false),fA 32 120 2 8,sT 33 1 120 119] [4,8]) (.seq (.region 0 [lN 0 121 7 8,sT 1 7 4 121] [4]) (.ret))
def c67_1:AC :=
 .seq (.region 0 [mV 0 58 6,fA 1 59 0 7,iA 2 60 2 8 59 58,fA 3 61 2 60,lD 4 62 61,mV 5 63 62,gM 6 64 6 63 true,gF 7 65 0 7 63 true,gG 8 66 (.ixaA 2 8 (.t 65) (.t 64)) 63 true,gF 9 67 4 66 63 true,gL 10 68 67 63 true,gG 11 69 (.lenL (.t 68)) 63 true,gG 12 70 (.bin .gtr (.t 69) (.c (.i 0))) 63 true,gM 13 71 70 63 true,gM 14 72 9 71 false,gG 15 73 (.pick (.t 71) (.c (.bool true)) (.t 72)) 63 true,gM 16 74 73 63 true,gM 17 75 6 74 false,gG 18 76 (.bin .sub (.c (.i 1)) (.t 75)) 74 false,gF 19 77 0 7 74 false,gG 20 78 (.ixaA 2 8 (.t 77) (.t 76)) 74 false,gF 21 79 5 78 74 false,gL 22 80 79 74 false,gG 23 81 (.pick (.t 74) (.c (.bool true)) (.t 80)) 63 true,gM 24 82 81 63 true,gF 25 83 17 7 82 false,gL 26 84 83 82 false,gG 27 85 (.pick (.t 82) (.c (.bool true)) (.t 84)) 63 true,pT 28 86 63 85 (.bool false),fA 29 87 1 8,sT 30 1 87 86] [4,6,7,8,9]) (c67_0)
def c67_2:AC :=
 .seq (.region 0 [mV 0 53 9,fA 1 54 3 8,sT 2 1 54 53] [4,6,7,8,9]) (.seq (.region 0 [fA 0 55 17 7,lD 1 56 55,fA 2 57 4 8,sT 3 1 57 56] [4,6,7,8,9]) (c67_1))
def c67_3:AC :=
 .seq (.region 0 [fA 0 40 19 7,lD 1 41 40,lL 2 42 41,bC 3 43 .gtr 42 (.i 0),fA 4 44 1 8,sT 5 1 44 43] [4,8]) (.seq (.region 0 [lN 0 45 7 8,sT 1 7 4 45] [4]) (.ret))
def c67_4:AC :=
 .seq (.region 0 [mV 0 46 6,qQ 1 47 (.bin .sub (.c (.i 1)) (.t 46)),fA 2 48 0 7,iA 3 49 2 8 48 47,fA 4 50 0 49,lD 5 51 50,bC 6 52 .eql 51 (.i 3),mV 7 9 52] [4,6,7,8,9]) (c67_2)
def c67_5:AC :=
 .seq (.region 1 [mV 0 26 6,fA 1 27 0 7,iA 2 28 2 8 27 26,fA 3 29 6 28,lD 4 30 29,mV 5 31 6,fA 6 32 0 7,iA 7 33 2 8 32 31,fA 8 34 7 33,lD 9 35 34,qQ 10 36 (.build [.bool false,.bool false,.bool false,.bool false,.bool false,.int .u64 0,.int .u64 0] [(0,1,(.c (.bool true))),(5,1,(.t 30)),(6,1,(.t 35))]),⟨11,(some 8),.alloc 7 [.bool false,.bool false,.bool false,.bool false,.bool false,.int .u64 0,.int .u64 0],none,some 0,[]⟩,sT 12 7 8 36] [4,6,7,8]) (.seq (.seq (.region 0 [fA 0 37 18 7,lD 1 38 37,bC 2 39 .gtr 38 (.i 0)] [4,6,7,8,39]) (.cond (.t 39) (c67_3) (.skip))) (c67_4))
def c67_6:AC :=
 .seq (.region 0 [mV 0 19 0,nC 1 20 19,fA 2 21 0 20,lD 3 22 21,mV 4 23 5,iS 5 24 20 22 23,lN 6 25 20 24,qQ 7 7 (.alloc 20 [.i 0,.i 0,.bool false,.bool false,.nils,.bool false,.int .u64 0,.int .u64 0,.i 0,.i 0,.bool false,.bool false,.nils,.bool false,.int .u64 0,.int .u64 0,.i 0,.bool false,.i 0,.nils]),sT 8 20 7 25] [4,6,7]) (c67_5)
def c67_7:AC :=
 .seq (.seq (.region 0 [mV 0 16 5,bC 1 17 .lss 16 (.i 0)] [0,4,5,6,17]) (.cond (.t 17) (.seq (.region 0 [qQ 0 18 (.build [.bool false,.bool false,.bool false,.bool false,.bool false,.int .u64 0,.int .u64 0] []),sT 1 7 4 18] [4]) (.ret)) (.skip))) (c67_6)
def c67_8:AC :=
 .seq (.region 0 [mV 0 11 0,mV 1 12 1,aB 2 13 48 11 12,mV 3 10 13,eX 4 14 10 0,eX 5 15 10 1,mV 6 5 14,mV 7 6 15] [0,4,5,6]) (c67_7)
def c67:AFn:=⟨2,122,[.cellN 4 7],(.seq (.region 0 [qQ 0 4 (.alloc 7 [.bool false,.bool false,.bool false,.bool false,.bool false,.int .u64 0,.int .u64 0])] [0,1,4]) (c67_8))⟩
def c68_0:AC :=
 .seq (.region 0 [fA 0 18 1 6,lD 1 19 18,bC 2 20 .andNot 19 (.i 5),bC 3 21 .neq 20 (.i 0)] [12,13,14,21]) (.cond (.t 21) (.seq (.region 0 [mC 0 4 (.i 2)] [4]) (.ret)) (.skip))
def c68_1:AC :=
 .seq (.block 1 (.seq (.region 0 [iS 0 16 2 12 14,lN 1 17 2 16,qQ 2 6 (.alloc 2 [.i 0,.i 0]),sT 3 2 6 17] [6,12,13,14]) (c68_0))) (.region 0 [bC 0 22 .add 14 (.i 1),mV 1 14 22] [12,13,14])
def c68_2:AC :=
 .seq (.seq (.region 0 [mV 0 12 1,lL 1 13 12,mC 2 14 (.i 0)] [12,13,14]) (.block 0 (.loop [12,13,14] (.seq (.region 0 [bB 0 15 .lss 14 13] [12,13,14,15]) (.seq (.cond (.t 15) (.skip) (.exit 0)) (c68_1)))))) (.seq (.region 0 [mC 0 4 (.i 0)] [4]) (.ret))
def c68_3:AC :=
 .seq (.seq (.region 0 [mV 0 7 0,qQ 1 8 (.eq .ptr false (.t 7) (.c (.ptr none)))] [1,8]) (.cond (.t 8) (.seq (.region 0 [mC 0 4 (.i 1)] [4]) (.ret)) (.skip))) (.seq (.seq (.region 0 [mV 0 9 1,lL 1 10 9,bC 2 11 .gtr 10 (.i 96)] [1,11]) (.cond (.t 11) (.seq (.region 0 [mC 0 4 (.i 2)] [4]) (.ret)) (.skip))) (c68_2))
def c68:AFn:=⟨2,23,[.tmp 4],(.seq (.region 0 [mC 0 4 (.i 0)] [0,1]) (c68_3))⟩
def c69:AFn:=⟨2,6,[.tmp 4],(.seq (.region 0 [qQ 0 2 (.box 1 (.t 0)),qQ 1 3 (.box 1 (.t 1)),mC 2 4 (.nilfn)] [2,3]) (.seq (.region 0 [qQ 0 5 (.mkClo 119 [(.t 3),(.t 2)]),mV 1 4 5] [4]) (.ret)))⟩
def c72_0:AC :=
 .seq (.region 0 [lD 0 17 4,mV 1 18 10,aB 2 19 13 17 18,qQ 3 20 (.field 0 none (.t 19)),qQ 4 21 (.un .not (.t 20))] [9,21]) (.cond (.t 21) (.seq (.region 0 [.mk4 0 none (.store 1 (.t 9) (.c (.bool true))) none] []) (.exit 0)) (.skip))
def c72_1:AC :=
 .seq (.seq (.region 0 [mV 0 11 1,lN 1 12 2 6,lN 2 13 2 7,aC 3 14 73 11 12 13] [4,9,14]) (.block 0 (.rangeFunc (.t 14) [15,16] [4,9] (.region 0 [mV 0 10 15] [4,9,10]) (.block 1 (c72_0))))) (.seq (.region 0 [lD 0 22 9,mV 1 8 22] [8]) (.ret))
def c72_2:AC :=
 .seq (.region 0 [qQ 0 4 (.box 1 (.t 0)),qQ 1 6 (.box 2 (.t 2)),qQ 2 7 (.box 2 (.t 3)),mC 3 8 (.bool false)] [1,4,6,7]) (.scope (.seq (.region 0 [qQ 0 9 (.alloc 1 [.bool false]),.mk4 1 none (.store 1 (.t 9) (.c (.bool false))) none] [1,4,6,7,9]) (.seq (.label 0) (c72_1))))
def c72:AFn:=⟨4,23,[.tmp 8],(c72_2)⟩
def c73_0:AC :=
 .seq (.region 0 [qQ 0 3 (.box 1 (.t 0)),qQ 1 4 (.box 2 (.t 1)),qQ 2 5 (.box 2 (.t 2)),mC 3 6 (.nilfn)] [3,4,5]) (.seq (.region 0 [qQ 0 7 (.mkClo 121 [(.t 4),(.t 5),(.t 3)]),mV 1 6 7] [6]) (.ret))
def c73:AFn:=⟨3,8,[.tmp 6],(c73_0)⟩
def c74_0:AC :=
 .seq (.seq (.region 0 [fA 0 16 2 1,lD 1 17 16,mV 2 18 17,gF 3 19 3 1 18 false,gL 4 20 19 18 false,pC 5 21 18 (.bool true) 20,mV 6 22 21,gF 7 23 4 1 22 false,gL 8 24 23 22 false,pC 9 25 22 (.bool true) 24] [3,25]) (.cond (.t 25) (.region 0 [mV 0 26 3,bC 1 27 .or 26 (.i 4),mV 2 3 27] [3]) (.skip))) (.seq (.region 0 [mV 0 28 3,mV 1 2 28] [2]) (.ret))
def c74_1:AC :=
 .seq (.seq (.region 0 [fA 0 4 1 1,lD 1 5 4,mV 2 6 5,gF 3 7 3 1 6 false,gL 4 8 7 6 false,pC 5 9 6 (.bool true) 8,mV 6 10 9,gF 7 11 4 1 10 false,gL 8 12 11 10 false,pC 9 13 10 (.bool true) 12] [1,3,13]) (.cond (.t 13) (.region 0 [mV 0 14 3,bC 1 15 .or 14 (.i 2),mV 2 3 15] [1,3]) (.skip))) (c74_0)
def c74:AFn:=⟨1,29,[.tmp 2],(.seq (.region 0 [qQ 0 1 (.box 7 (.t 0)),mC 1 2 (.i 0)] [1]) (.seq (.region 0 [mC 0 3 (.i 0)] [1,3]) (c74_1)))⟩
def c75:AFn:=⟨1,4,[.tmp 2],(.seq (.region 0 [qQ 0 1 (.box 2 (.t 0)),mC 1 2 (.nilfn)] [1]) (.seq (.region 0 [qQ 0 3 (.mkClo 123 [(.t 1)]),mV 1 2 3] [2]) (.ret)))⟩
def c76_0:AC :=
 .region 0 [mV 0 7 1,bC 1 8 .quo 7 (.i 32),iA 2 9 2 1 2 8,lD 3 10 9,mV 4 11 1,bC 5 12 .rem 11 (.i 32),qQ 6 13 (.bin .shl (.c (.int .u32 1)) (.t 12)),bB 7 14 .andNot 10 13,iA 8 15 2 1 2 8,sT 9 1 15 14] [2,4]
def c76_1:AC :=
 .seq (.region 0 [qQ 0 2 (.box 2 (.t 0)),qQ 1 4 (.alloc 2 [.int .u32 0,.int .u32 0])] [1,2,4]) (.seq (.seq (.region 0 [mV 0 5 1,aA 1 6 79 5] [1,2,4,6]) (.cond (.t 6) (c76_0) (.skip))) (.seq (.region 0 [lN 0 16 2 2,sT 1 2 4 16] [4]) (.ret)))
def c76:AFn:=⟨2,17,[.cellN 4 2],(c76_1)⟩
def c79_0:AC :=
 .seq (.region 0 [mV 0 3 0,bC 1 4 .geq 3 (.i 0),mV 2 5 4,gM 3 6 0 5 true,gG 4 7 (.bin .lss (.t 6) (.c (.i 64))) 5 true,pT 5 8 5 7 (.bool false),mV 6 2 8] [2]) (.ret)
def c79:AFn:=⟨1,9,[.tmp 2],(.seq (.region 0 [mC 0 2 (.bool false)] [0]) (c79_0))⟩
def c80:AFn:=⟨0,3,[.tmp 0],(.seq (.region 0 [mC 0 0 (.ptr none)] []) (.seq (.region 0 [qQ 0 1 (.build (List.replicate 32 (.bool false:V)++List.replicate 32 (.i 0:V)) []),qQ 1 2 (.box 64 (.t 1)),mV 2 0 2] [0]) (.ret)))⟩
def c81_0:AC :=
 .region 0 [mV 0 21 3,mV 1 22 4,nC 2 23 21,fA 3 24 0 23,iA 4 25 2 7 24 22,fA 5 26 3 25,.mk4 6 none (.store 1 (.t 26) (.c (.bool true))) none] [0,3,7]
def c81_1:AC :=
 .seq (.region 0 [mV 0 11 3,mV 1 12 4,mV 2 13 0,nC 7 17 11,fA 8 18 0 17,aA 3 14 125 13,mV 4 10 14,eX 5 15 10 0,eX 6 16 10 1,iA 9 19 2 7 18 12,fA 10 20 2 19,sT 11 1 20 15] [0,3,4,7]) (c81_0)
def c81_2:AC :=
 .seq (.region 0 [bC 0 8 .lss 7 (.i 2)] [0,3,7,8]) (.seq (.cond (.t 8) (.skip) (.exit 0)) (.seq (.block 1 (.seq (.region 0 [mV 0 9 7,mV 1 4 9] [0,3,4,7]) (c81_1))) (.region 0 [bC 0 27 .add 7 (.i 1),mV 1 7 27] [0,3,7])))
def c81_3:AC :=
 .seq (.region 0 [qQ 0 5 (.build [.i 0,.i 0,.ptr none,.bool false,.bool false,.int .u64 0,.int .u64 0,.i 0,.i 0,.ptr none,.bool false,.bool false,.int .u64 0,.int .u64 0,.bool false,.i 0,.nils] []),qQ 1 6 (.box 17 (.t 5)),mV 2 3 6] [0,3]) (.seq (.seq (.region 0 [mC 0 7 (.i 0)] [0,3,7]) (.block 0 (.loop [0,3,7] (c81_2)))) (.seq (.region 0 [mV 0 28 3,mV 1 2 28] [2]) (.ret)))
def c81:AFn:=⟨1,29,[.tmp 2],(.seq (.region 0 [mC 0 2 (.ptr none)] [0]) (c81_3))⟩
def c82_0:AC :=
 .seq (.region 0 [mV 0 27 0,mV 1 28 3,mV 2 29 10,aC 3 30 128 27 28 29] [10]) (.seq (.region 0 [mV 0 31 10,mV 1 8 31,mC 2 9 (.i 0)] [8,9]) (.ret))
def c82_1:AC :=
 .seq (.region 0 [mV 0 16 1,aA 1 17 126 16,qQ 2 18 (.un .not (.t 17)),mV 3 15 18] [0,2,3,15]) (.cond (.t 15) (.seq (.region 0 [mC 0 8 (.nils),mC 1 9 (.i 2)] [8,9]) (.ret)) (.skip))
def c82_2:AC :=
 .seq (.region 0 [mV 0 13 0,aA 1 14 43 13,mV 2 12 14] [0,1,2,3,12]) (.cond (.t 12) (.seq (.region 0 [mC 0 8 (.nils),mC 1 9 (.i 1)] [8,9]) (.ret)) (c82_1))
def c82_3:AC :=
 .seq (.region 0 [mV 0 20 0,mV 1 21 2,aB 2 22 127 20 21,mV 3 19 22,eX 4 23 19 0,eX 5 24 19 1,mV 6 10 23,mV 7 11 24] [0,3,10,11]) (.seq (.seq (.region 0 [mV 0 25 11,qQ 1 26 (.un .not (.t 25))] [0,3,10,26]) (.cond (.t 26) (.seq (.region 0 [mC 0 8 (.nils),mC 1 9 (.i 112)] [8,9]) (.ret)) (.skip))) (c82_0))
def c82:AFn:=⟨4,32,[.tmp 8,.tmp 9],(.seq (.region 0 [mC 0 8 (.nils),mC 1 9 (.i 0)] [0,1,2,3]) (.seq (.block 0 (c82_2)) (c82_3)))⟩
def c83_0:AC :=
 .seq (.region 0 [mV 0 10 1,bC 1 11 .lss 10 (.i 0),mV 2 12 11,gM 3 13 1 12 false,gM 4 14 0 12 false,gG 5 15 (.nilck (.t 14)) 12 false,gF 6 16 288 15 12 false,gL 7 17 16 12 false,gG 8 18 (.lenL (.t 17)) 12 false,gG 9 19 (.bin .geq (.t 13) (.t 18)) 12 false,pC 10 20 12 (.bool true) 19,mV 11 21 20,gM 12 22 0 21 false,gG 13 23 (.nilck (.t 22)) 21 false,gF 14 24 288 23 21 false,gL 15 25 24 21 false,gM 16 26 1 21 false,gG 17 27 (.ixaS 1 (.t 25) (.t 26)) 21 false,gL 18 28 27 21 false,gG 19 29 (.nilck (.t 28)) 21 false,gF 20 30 0 29 21 false,gG 21 31 (.ixaA 2 7 (.t 30) (.c (.i 1))) 21 false,gF 22 32 0 31 21 false,gL 23 33 32 21 false,gG 24 34 (.bin .neq (.t 33) (.c (.i 2))) 21 false,pC 25 35 21 (.bool true) 34,mV 26 9 35] [0,1,9]) (.cond (.t 9) (.seq (.region 0 [mC 0 4 (.ptr none),mC 1 5 (.i 116)] [4,5]) (.ret)) (.skip))
def c83_1:AC :=
 .seq (.region 0 [mV 0 36 0,nC 1 37 36,fA 2 38 288 37,lD 3 39 38,mV 4 40 1,iS 5 41 1 39 40,lD 6 42 41,mV 7 4 42,mC 8 5 (.i 0)] [4,5]) (.ret)
def c83_2:AC :=
 .seq (.block 0 (.seq (.region 0 [mV 0 7 0,aA 1 8 43 7,mV 2 6 8] [0,1,6]) (.cond (.t 6) (.seq (.region 0 [mC 0 4 (.ptr none),mC 1 5 (.i 1)] [4,5]) (.ret)) (c83_0)))) (c83_1)
def c83:AFn:=⟨2,43,[.tmp 4,.tmp 5],(.seq (.region 0 [mC 0 4 (.ptr none),mC 1 5 (.i 0)] [0,1]) (c83_2))⟩
def c84_0:AC :=
 .seq (.region 0 [mV 0 3 0,qQ 1 4 (.eq .ptr false (.t 3) (.c (.ptr none))),mV 2 5 4,gM 3 6 0 5 false,gG 4 7 (.nilck (.t 6)) 5 false,gF 5 8 5 7 5 false,gL 6 9 8 5 false,gG 7 10 (.un .not (.t 9)) 5 false,pC 8 11 5 (.bool true) 10,mV 9 2 11] [2]) (.ret)
def c84:AFn:=⟨1,12,[.tmp 2],(.seq (.region 0 [mC 0 2 (.bool false)] [0]) (c84_0))⟩
def c85_0:AC :=
 .seq (.region 0 [mV 0 17 5,bC 1 18 .lss 17 (.i 0)] [0,3,4,18]) (.cond (.t 18) (.region 0 [mV 0 19 3,mV 1 20 4,qQ 2 21 (.bslice 1 1 [.i 0] [(0,(.t 20))]),qQ 3 22 (.append 1 8 (.t 19) (.t 21)),mV 4 3 22] [0,3,4]) (.skip))
def c85_1:AC :=
 .seq (.region 0 [mV 0 12 0,mV 1 13 4,aB 2 14 48 12 13,mV 3 11 14,eX 4 15 11 0,eX 5 16 11 1,mV 6 5 15,mV 7 6 16] [0,3,4,5]) (c85_0)
def c85_2:AC :=
 .seq (.seq (.region 0 [mV 0 7 4,bC 1 8 .leq 7 (.i 95)] [0,3,4,8]) (.cond (.t 8) (.skip) (.exit 0))) (.seq (.block 1 (c85_1)) (.region 0 [mV 0 9 4,bC 1 10 .add 9 (.i 1),mV 2 4 10] [0,3,4]))
def c85_3:AC :=
 .seq (.region 0 [mC 0 2 (.nils)] [0]) (.seq (.region 0 [mC 0 3 (.nils)] [0,3]) (.seq (.seq (.region 0 [mC 0 4 (.i 0)] [0,3,4]) (.block 0 (.loop [0,3,4] (c85_2)))) (.seq (.region 0 [mV 0 23 3,mV 1 2 23] [2]) (.ret))))
def c85:AFn:=⟨1,24,[.tmp 2],(c85_3)⟩
def c86_0:AC :=
 .seq (.region 0 [mV 0 40 0,mV 1 41 1,mV 2 42 2,qQ 3 43 (.bin .sub (.c (.i 1)) (.t 42)),mV 4 44 3,bC 5 45 .gtr 44 (.i 0),qQ 6 46 (.call 129 [(.t 40),(.t 41),(.t 43),(.c (.bool false)),(.t 45)])] [3,9]) (.seq (.region 0 [mV 0 47 9,mV 1 48 3,qQ 2 49 (.slice 1 (.t 47) none (some (.t 48)) none),mV 3 8 49] [8]) (.ret))
def c86_1:AC :=
 .seq (.region 0 [mV 0 27 0,nC 1 28 27,fA 2 29 0 28,lD 3 30 29,mV 4 31 1,mV 5 32 2,mV 6 33 9,mV 7 34 3,qQ 8 35 (.slice 1 (.t 33) (some (.t 34)) none none),iS 9 36 20 30 31,fA 10 37 0 36,iA 11 38 2 8 37 32,fA 12 39 4 38,sT 13 1 39 35] [0,1,2,3,9]) (c86_0)
def c86_2:AC :=
 .seq (.seq (.region 0 [mV 0 21 3,mV 1 22 9,lL 2 23 22,bB 3 24 .gtr 21 23] [0,1,2,3,9,24]) (.cond (.t 24) (.region 0 [mV 0 25 9,lL 1 26 25,mV 2 3 26] [0,1,2,3,9]) (.skip))) (c86_1)
def c86_3:AC :=
 .seq (.region 0 [mV 0 10 0,nC 1 11 10,fA 2 12 0 11,lD 3 13 12,mV 4 14 1,mV 5 15 2,iS 6 16 20 13 14,fA 7 17 0 16,iA 8 18 2 8 17 15,fA 9 19 4 18,lD 10 20 19,mV 11 9 20] [0,1,2,3,9]) (c86_2)
def c86:AFn:=⟨4,50,[.tmp 8],(.seq (.region 0 [mC 0 8 (.nils)] [0,1,2,3]) (c86_3))⟩
def c87_0:AC :=
 .seq (.region 0 [mV 0 70 0,mV 1 71 1,mV 2 72 2,qQ 3 73 (.bin .sub (.c (.i 1)) (.t 72)),mV 4 74 10,bC 5 75 .gtr 74 (.i 0),qQ 6 76 (.call 129 [(.t 70),(.t 71),(.t 73),(.t 75),(.c (.bool false))])] [10]) (.seq (.region 0 [mV 0 77 10,mV 1 8 77] [8]) (.ret))
def c87_1:AC :=
 .seq (.region 0 [mV 0 54 0,nC 1 55 54,fA 2 56 0 55,lD 3 57 56,mV 4 58 1,mV 5 59 2,qQ 6 60 (.bin .sub (.c (.i 1)) (.t 59)),mV 7 61 11,mV 8 62 3,mV 9 63 10,qQ 10 64 (.slice 1 (.t 62) none (some (.t 63)) none),iS 12 66 20 57 58,fA 13 67 0 66,⟨11,(some 65),.append 1 1 (.t 61) (.t 64),none,none,[(57,.load1 (.t 56),none)]⟩,iA 14 68 2 8 67 60,fA 15 69 4 68,sT 16 1 69 65] [0,1,2,10]) (c87_0)
def c87_2:AC :=
 .seq (.region 0 [mV 0 40 11,mV 1 41 0,nC 2 42 41,fA 3 43 0 42,lD 4 44 43,mV 5 45 1,mV 6 46 2,qQ 7 47 (.bin .sub (.c (.i 1)) (.t 46)),iS 8 48 20 44 45,fA 9 49 0 48,iA 10 50 2 8 49 47,fA 11 51 4 50,lD 12 52 51,qQ 13 53 (.append 1 1 (.t 40) (.t 52)),mV 14 11 53] [0,1,2,3,10,11]) (c87_1)
def c87_3:AC :=
 .seq (.seq (.region 0 [mV 0 36 10,mV 1 37 9,bB 2 38 .gtr 36 37] [0,1,2,3,9,10,38]) (.cond (.t 38) (.region 0 [mV 0 39 9,mV 1 10 39] [0,1,2,3,10]) (.skip))) (.seq (.region 0 [mC 0 11 (.nils)] [0,1,2,3,10,11]) (c87_2))
def c87_4:AC :=
 .seq (.region 0 [mV 0 12 0,nC 1 13 12,fA 2 14 0 13,lD 3 15 14,mV 4 16 1,iS 5 17 20 15 16,fA 6 18 16 17,lD 7 19 18,mV 8 20 0,nC 9 21 20,fA 10 22 0 21,lD 11 23 22,mV 12 24 1,mV 13 25 2,qQ 14 26 (.bin .sub (.c (.i 1)) (.t 25)),iS 15 27 20 23 24,fA 16 28 0 27,iA 17 29 2 8 28 26,fA 18 30 4 29,lD 19 31 30,lL 20 32 31,bB 21 33 .sub 19 32,mV 22 9 33] [0,1,2,3,9]) (.seq (.region 0 [mV 0 34 3,lL 1 35 34,mV 2 10 35] [0,1,2,3,9,10]) (c87_3))
def c87:AFn:=⟨4,78,[.tmp 8],(.seq (.region 0 [mC 0 8 (.i 0)] [0,1,2,3]) (c87_4))⟩
def c88_0:AC :=
 .seq (.region 0 [mV 0 12 0,mV 1 13 1,nC 2 14 12,fA 3 15 0 14,iA 4 16 2 7 15 13,fA 5 17 4 16,.mk4 6 none (.store 1 (.t 17) (.c (.bool true))) none] [0,1]) (.region 0 [mV 0 18 0,mV 1 19 1,qQ 2 20 (.bin .sub (.c (.i 1)) (.t 19)),qQ 3 21 (.call 116 [(.t 18),(.t 20),(.c (.bool true)),(.c (.bool false))])] [])
def c88_1:AC :=
 .seq (.region 0 [mV 0 4 0,mV 1 5 1,nC 2 6 4,fA 3 7 0 6,iA 4 8 2 7 7 5,fA 5 9 4 8,lD 6 10 9,qQ 7 11 (.un .not (.t 10))] [0,1,11]) (.cond (.t 11) (c88_0) (.skip))
def c88:AFn:=⟨2,22,[],(c88_1)⟩
def c89_0:AC :=
 .seq (.region 0 [mV 0 18 0,nC 1 19 18,fA 2 20 0 19,lD 3 21 20,mV 4 22 1,mV 5 23 2,iS 6 24 20 21 22,fA 7 25 0 24,iA 8 26 2 8 25 23,fA 9 27 5 26,.mk4 10 none (.store 1 (.t 27) (.c (.bool true))) none] [0,1,2]) (.region 0 [mV 0 28 0,mV 1 29 1,mV 2 30 2,qQ 3 31 (.bin .sub (.c (.i 1)) (.t 30)),qQ 4 32 (.call 129 [(.t 28),(.t 29),(.t 31),(.c (.bool true)),(.c (.bool false))])] [])
def c89_1:AC :=
 .seq (.region 0 [mV 0 6 0,nC 1 7 6,fA 2 8 0 7,lD 3 9 8,mV 4 10 1,mV 5 11 2,iS 6 12 20 9 10,fA 7 13 0 12,iA 8 14 2 8 13 11,fA 9 15 5 14,lD 10 16 15,qQ 11 17 (.un .not (.t 16))] [0,1,2,17]) (.cond (.t 17) (c89_0) (.skip))
def c89:AFn:=⟨3,33,[],(c89_1)⟩
def c90_0:AC :=
 .region 0 [mV 0 16 0,mV 1 17 1,nC 2 18 16,fA 3 19 0 18,iA 4 20 2 7 19 17,fA 5 21 0 20,.mk4 6 none (.store 1 (.t 21) (.c (.i 3))) none] []
def c90_1:AC :=
 .seq (.region 0 [mV 0 4 0,mV 1 5 1,qQ 2 6 (.bin .sub (.c (.i 1)) (.t 5)),mV 3 7 0,mV 4 8 1,nC 5 9 7,fA 6 10 0 9,iA 7 11 2 7 10 8,fA 8 12 4 11,lD 9 13 12,qQ 10 14 (.un .not (.t 13)),qQ 11 15 (.call 116 [(.t 4),(.t 6),(.t 14),(.c (.bool true))])] [0,1]) (c90_0)
def c90:AFn:=⟨2,22,[],(c90_1)⟩
def c91_0:AC :=
 .region 0 [mV 0 23 0,nC 1 24 23,fA 2 25 0 24,lD 3 26 25,mV 4 27 1,mV 5 28 2,iS 6 29 20 26 27,fA 7 30 0 29,iA 8 31 2 8 30 28,fA 9 32 0 31,.mk4 10 none (.store 1 (.t 32) (.c (.i 3))) none] []
def c91_1:AC :=
 .seq (.region 0 [mV 0 6 0,mV 1 7 1,mV 2 8 2,qQ 3 9 (.bin .sub (.c (.i 1)) (.t 8)),mV 4 10 0,nC 5 11 10,fA 6 12 0 11,lD 7 13 12,mV 8 14 1,mV 9 15 2,iS 10 16 20 13 14,fA 11 17 0 16,iA 12 18 2 8 17 15,fA 13 19 5 18,lD 14 20 19,qQ 15 21 (.un .not (.t 20)),qQ 16 22 (.call 129 [(.t 6),(.t 7),(.t 9),(.t 21),(.c (.bool true))])] [0,1,2]) (c91_0)
def c91:AFn:=⟨3,33,[],(c91_1)⟩
def c92_0:AC :=
 .seq (.region 0 [mV 0 45 0,mV 1 46 1,mV 2 47 2,qQ 3 48 (.call 87 [(.t 45),(.t 46),(.c (.i 1)),(.t 47)]),mV 4 6 48,mC 5 7 (.i 0)] [6,7]) (.ret)
def c92_1:AC :=
 .seq (.seq (.region 0 [mV 0 22 0,nC 1 23 22,fA 2 24 0 23,lD 3 25 24,mV 4 26 1,iS 5 27 20 25 26,fA 6 28 0 27,qQ 7 29 (.ixaA 2 8 (.t 28) (.c (.i 1))),fA 8 30 5 29,lD 9 31 30,mV 10 32 31,gM 11 33 0 32 false,gG 12 34 (.nilck (.t 33)) 32 false,gF 13 35 0 34 32 false,gL 14 36 35 32 false,gM 15 37 1 32 false,gG 16 38 (.ixaS 20 (.t 36) (.t 37)) 32 false,gF 17 39 0 38 32 false,gG 18 40 (.ixaA 2 8 (.t 39) (.c (.i 0))) 32 false,gF 19 41 0 40 32 false,gL 20 42 41 32 false,gG 21 43 (.bin .eql (.t 42) (.c (.i 3))) 32 false,pC 22 44 32 (.bool true) 43] [0,1,2,44]) (.cond (.t 44) (.seq (.region 0 [mC 0 6 (.i 0),mC 1 7 (.i 114)] [6,7]) (.ret)) (.skip))) (c92_0)
def c92_2:AC :=
 .seq (.seq (.region 0 [mV 0 14 0,nC 1 15 14,fA 2 16 0 15,lD 3 17 16,mV 4 18 1,iS 5 19 20 17 18,fA 6 20 17 19,lD 7 21 20] [0,1,2,21]) (.cond (.t 21) (.seq (.region 0 [mC 0 6 (.i 0),mC 1 7 (.i 115)] [6,7]) (.ret)) (.skip))) (c92_1)
def c92_3:AC :=
 .seq (.region 0 [mV 0 9 0,mV 1 10 1,aB 2 11 130 9 10,mV 3 8 11] [0,1,2,8]) (.seq (.seq (.region 0 [mV 0 12 8,qQ 1 13 (.un .not (.t 12))] [0,1,2,13]) (.cond (.t 13) (.seq (.region 0 [mC 0 6 (.i 0),mC 1 7 (.i 116)] [6,7]) (.ret)) (.skip))) (c92_2))
def c92:AFn:=⟨3,49,[.tmp 6,.tmp 7],(.seq (.region 0 [mC 0 6 (.i 0),mC 1 7 (.i 0)] [0,1,2]) (c92_3))⟩
def c93_0:AC :=
 .seq (.region 0 [mV 0 24 8,nC 1 25 24,fA 2 26 14 25,lD 3 27 26,mV 4 23 27] [2,8,23]) (.cond (.t 23) (.seq (.region 0 [mC 0 6 (.nils),mC 1 7 (.i 115)] [6,7]) (.ret)) (.skip))
def c93_1:AC :=
 .seq (.region 0 [mV 0 21 2,bC 1 22 .lss 21 (.i 0),mV 2 20 22] [2,8,20]) (.cond (.t 20) (.seq (.region 0 [mC 0 6 (.nils),mC 1 7 (.i 2)] [6,7]) (.ret)) (c93_0))
def c93_2:AC :=
 .seq (.region 0 [mV 0 17 9,bC 1 18 .neq 17 (.i 0),mV 2 16 18] [2,8,9,16]) (.cond (.t 16) (.seq (.region 0 [mV 0 19 9,mC 1 6 (.nils),mV 2 7 19] [6,7]) (.ret)) (c93_1))
def c93_3:AC :=
 .seq (.region 0 [mV 0 11 0,mV 1 12 1,aB 2 13 83 11 12,mV 3 10 13,eX 4 14 10 0,eX 5 15 10 1,mV 6 8 14,mV 7 9 15] [2,8,9]) (.seq (.block 0 (c93_2)) (.seq (.region 0 [mV 0 28 8,mV 1 29 2,qQ 2 30 (.call 63 [(.t 28),(.c (.i 1)),(.t 29)]),mV 3 6 30,mC 4 7 (.i 0)] [6,7]) (.ret)))
def c93:AFn:=⟨3,31,[.tmp 6,.tmp 7],(.seq (.region 0 [mC 0 6 (.nils),mC 1 7 (.i 0)] [0,1,2]) (c93_3))⟩
def c94_0:AC :=
 .seq (.region 0 [mV 0 24 0,mV 1 25 1,mV 2 26 2,qQ 3 27 (.call 86 [(.t 24),(.t 25),(.c (.i 1)),(.t 26)]),mV 4 6 27,mC 5 7 (.i 0)] [6,7]) (.ret)
def c94_1:AC :=
 .seq (.seq (.region 0 [mV 0 16 0,nC 1 17 16,fA 2 18 0 17,lD 3 19 18,mV 4 20 1,iS 5 21 20 19 20,fA 6 22 17 21,lD 7 23 22] [0,1,2,23]) (.cond (.t 23) (.seq (.region 0 [mC 0 6 (.nils),mC 1 7 (.i 115)] [6,7]) (.ret)) (.skip))) (c94_0)
def c94_2:AC :=
 .seq (.seq (.region 0 [mV 0 12 8,qQ 1 13 (.un .not (.t 12))] [0,1,2,13]) (.cond (.t 13) (.seq (.region 0 [mC 0 6 (.nils),mC 1 7 (.i 116)] [6,7]) (.ret)) (.skip))) (.seq (.seq (.region 0 [mV 0 14 2,bC 1 15 .lss 14 (.i 0)] [0,1,2,15]) (.cond (.t 15) (.seq (.region 0 [mC 0 6 (.nils),mC 1 7 (.i 2)] [6,7]) (.ret)) (.skip))) (c94_1))
def c94_3:AC :=
 .seq (.region 0 [mC 0 6 (.nils),mC 1 7 (.i 0)] [0,1,2]) (.seq (.region 0 [mV 0 9 0,mV 1 10 1,aB 2 11 130 9 10,mV 3 8 11] [0,1,2,8]) (c94_2))
def c94:AFn:=⟨3,28,[.tmp 6,.tmp 7],(c94_3)⟩
def c95_0:AC :=
 .seq (.seq (.region 0 [mV 0 13 6,bC 1 14 .eql 13 (.i 0)] [5,6,14]) (.cond (.t 14) (.region 0 [mV 0 15 5,qQ 1 16 (.call 88 [(.t 15),(.c (.i 1))])] [6]) (.skip))) (.seq (.region 0 [mV 0 17 6,mV 1 4 17] [4]) (.ret))
def c95_1:AC :=
 .seq (.region 0 [mV 0 8 0,mV 1 9 1,aB 2 10 83 8 9,mV 3 7 10,eX 4 11 7 0,eX 5 12 7 1,mV 6 5 11,mV 7 6 12] [5,6]) (c95_0)
def c95:AFn:=⟨2,18,[.tmp 4],(.seq (.region 0 [mC 0 4 (.i 0)] [0,1]) (c95_1))⟩
def c96_0:AC :=
 .seq (.seq (.region 0 [mV 0 9 5,qQ 1 10 (.un .not (.t 9))] [0,1,10]) (.cond (.t 10) (.seq (.region 0 [mC 0 4 (.i 116)] [4]) (.ret)) (.skip))) (.seq (.region 0 [mV 0 11 0,mV 1 12 1,qQ 2 13 (.call 89 [(.t 11),(.t 12),(.c (.i 1))])] []) (.seq (.region 0 [mC 0 4 (.i 0)] [4]) (.ret)))
def c96:AFn:=⟨2,14,[.tmp 4],(.seq (.region 0 [mC 0 4 (.i 0)] [0,1]) (.seq (.region 0 [mV 0 6 0,mV 1 7 1,aB 2 8 130 6 7,mV 3 5 8] [0,1,5]) (c96_0)))⟩
def c97_0:AC :=
 .seq (.seq (.region 0 [mV 0 13 6,bC 1 14 .eql 13 (.i 0)] [5,6,14]) (.cond (.t 14) (.region 0 [mV 0 15 5,qQ 1 16 (.call 90 [(.t 15),(.c (.i 1))])] [6]) (.skip))) (.seq (.region 0 [mV 0 17 6,mV 1 4 17] [4]) (.ret))
def c97_1:AC :=
 .seq (.region 0 [mV 0 8 0,mV 1 9 1,aB 2 10 83 8 9,mV 3 7 10,eX 4 11 7 0,eX 5 12 7 1,mV 6 5 11,mV 7 6 12] [5,6]) (c97_0)
def c97:AFn:=⟨2,18,[.tmp 4],(.seq (.region 0 [mC 0 4 (.i 0)] [0,1]) (c97_1))⟩
def c98_0:AC :=
 .seq (.seq (.region 0 [mV 0 9 5,qQ 1 10 (.un .not (.t 9))] [0,1,10]) (.cond (.t 10) (.seq (.region 0 [mC 0 4 (.i 116)] [4]) (.ret)) (.skip))) (.seq (.region 0 [mV 0 11 0,mV 1 12 1,qQ 2 13 (.call 91 [(.t 11),(.t 12),(.c (.i 1))])] []) (.seq (.region 0 [mC 0 4 (.i 0)] [4]) (.ret)))
def c98:AFn:=⟨2,14,[.tmp 4],(.seq (.region 0 [mC 0 4 (.i 0)] [0,1]) (.seq (.region 0 [mV 0 6 0,mV 1 7 1,aB 2 8 130 6 7,mV 3 5 8] [0,1,5]) (c98_0)))⟩
def c99_0:AC :=
 .seq (.region 0 [mV 0 29 5,mV 1 30 7,nC 2 31 29,fA 3 32 0 31,iA 4 33 2 7 32 30,fA 5 34 2 33,lD 6 35 34,aA 7 36 131 35] [5,7,26]) (.region 0 [mV 0 37 5,mV 1 38 7,qQ 2 39 (.call 116 [(.t 37),(.t 38),(.c (.bool true)),(.c (.bool true))])] [5,26])
def c99_1:AC :=
 .seq (.region 0 [bC 0 27 .lss 26 (.i 2)] [5,26,27]) (.seq (.cond (.t 27) (.skip) (.exit 0)) (.seq (.block 1 (.seq (.region 0 [mV 0 28 26,mV 1 7 28] [5,7,26]) (c99_0))) (.region 0 [bC 0 40 .add 26 (.i 1),mV 1 26 40] [5,26])))
def c99_2:AC :=
 .seq (.region 0 [mV 0 23 5,nC 1 24 23,fA 2 25 14 24,.mk4 3 none (.store 1 (.t 25) (.c (.bool true))) none] [5]) (.seq (.seq (.region 0 [mC 0 26 (.i 0)] [5,26]) (.block 0 (.loop [5,26] (c99_1)))) (.seq (.region 0 [mC 0 4 (.i 0)] [4]) (.ret)))
def c99_3:AC :=
 .seq (.seq (.region 0 [mV 0 14 6,bC 1 15 .neq 14 (.i 0),mV 2 16 15,gM 3 17 5 16 false,gG 4 18 (.nilck (.t 17)) 16 false,gF 5 19 14 18 16 false,gL 6 20 19 16 false,pC 7 21 16 (.bool true) 20] [5,6,21]) (.cond (.t 21) (.seq (.region 0 [mV 0 22 6,mV 1 4 22] [4]) (.ret)) (.skip))) (c99_2)
def c99_4:AC :=
 .seq (.region 0 [mV 0 9 0,mV 1 10 1,aB 2 11 83 9 10,mV 3 8 11,eX 4 12 8 0,eX 5 13 8 1,mV 6 5 12,mV 7 6 13] [5,6]) (c99_3)
def c99:AFn:=⟨2,41,[.tmp 4],(.seq (.region 0 [mC 0 4 (.i 0)] [0,1]) (c99_4))⟩
def c100_0:AC :=
 .seq (.region 0 [mV 0 31 0,nC 1 32 31,fA 2 33 0 32,lD 3 34 33,mV 4 35 1,mV 5 36 6,iS 6 37 20 34 35,fA 7 38 0 37,iA 8 39 2 8 38 36,fA 9 40 4 39,.mk4 10 none (.store 1 (.t 40) (.c (.nils))) none] [0,1,6]) (.region 0 [mV 0 41 0,mV 1 42 1,mV 2 43 6,qQ 3 44 (.call 129 [(.t 41),(.t 42),(.t 43),(.c (.bool true)),(.c (.bool true))])] [0,1,6])
def c100_1:AC :=
 .seq (.seq (.region 0 [mV 0 27 6,bC 1 28 .lss 27 (.i 2)] [0,1,6,28]) (.cond (.t 28) (.skip) (.exit 0))) (.seq (.block 1 (c100_0)) (.region 0 [mV 0 29 6,bC 1 30 .add 29 (.i 1),mV 2 6 30] [0,1,6]))
def c100_2:AC :=
 .seq (.region 0 [mV 0 20 0,nC 1 21 20,fA 2 22 0 21,lD 3 23 22,mV 4 24 1,iS 5 25 20 23 24,fA 6 26 17 25,.mk4 7 none (.store 1 (.t 26) (.c (.bool true))) none] [0,1]) (.seq (.seq (.region 0 [mC 0 6 (.i 0)] [0,1,6]) (.block 0 (.loop [0,1,6] (c100_1)))) (.seq (.region 0 [mC 0 4 (.i 0)] [4]) (.ret)))
def c100_3:AC :=
 .seq (.seq (.region 0 [mV 0 12 0,nC 1 13 12,fA 2 14 0 13,lD 3 15 14,mV 4 16 1,iS 5 17 20 15 16,fA 6 18 17 17,lD 7 19 18] [0,1,19]) (.cond (.t 19) (.seq (.region 0 [mC 0 4 (.i 0)] [4]) (.ret)) (.skip))) (c100_2)
def c100_4:AC :=
 .seq (.region 0 [mV 0 7 0,mV 1 8 1,aB 2 9 130 7 8,mV 3 5 9] [0,1,5]) (.seq (.seq (.region 0 [mV 0 10 5,qQ 1 11 (.un .not (.t 10))] [0,1,11]) (.cond (.t 11) (.seq (.region 0 [mC 0 4 (.i 116)] [4]) (.ret)) (.skip))) (c100_3))
def c100:AFn:=⟨2,45,[.tmp 4],(.seq (.region 0 [mC 0 4 (.i 0)] [0,1]) (c100_4))⟩
def c101_0:AC :=
 .seq (.region 0 [mV 0 137 0,nC 1 138 137,fA 2 139 288 138,lD 3 140 139,lL 4 141 140,bC 5 142 .sub 141 (.i 1),mV 6 6 142,mC 7 7 (.i 0)] [6,7]) (.ret)
def c101_1:AC :=
 .seq (.region 0 [mV 0 127 0,mV 1 128 0,nC 2 129 128,fA 3 130 288 129,lD 4 131 130,mV 5 132 8,qQ 6 133 (.bslice 1 1 [.ptr none] [(0,(.t 132))]),qQ 7 134 (.append 1 8 (.t 131) (.t 133)),nC 8 135 127,fA 9 136 288 135,sT 10 1 136 134] [0]) (c101_0)
def c101_2:AC :=
 .seq (.region 0 [mV 0 116 9,nC 1 117 116,fA 2 118 0 117,qQ 3 119 (.ixaA 2 7 (.t 118) (.c (.i 0))),fA 4 120 5 119,lD 5 121 120,bC 6 122 .add 121 (.int .u64 1),nC 7 123 116,fA 8 124 0 123,qQ 9 125 (.ixaA 2 7 (.t 124) (.c (.i 0))),fA 10 126 5 125,sT 11 1 126 122] [0,8]) (c101_1)
def c101_3:AC :=
 .seq (.region 1 [mV 0 101 9,mV 1 102 9,nC 2 103 102,fA 3 104 16 103,lD 4 105 104,mV 6 107 0,nC 7 108 107,fA 8 109 288 108,lD 9 110 109,lL 10 111 110,⟨5,(some 106),.call 132 [(.t 105)],none,none,[(110,.load1 (.t 109),none)]⟩,⟨11,(some 112),.bslice 1 1 [.i 0] [(0,(.t 111))],none,some 0,[]⟩,qQ 12 113 (.append 1 8 (.t 106) (.t 112)),nC 13 114 101,fA 14 115 16 114,sT 15 1 115 113] [0,8,9]) (c101_2)
def c101_4:AC :=
 .seq (.region 0 [mV 0 94 0,nC 1 95 94,fA 2 96 288 95,lD 3 97 96,mV 4 98 1,iS 5 99 1 97 98,lD 6 100 99,mV 7 9 100] [0,8,9]) (c101_3)
def c101_5:AC :=
 .seq (.region 0 [mV 0 89 8,nC 1 90 89,fA 2 91 0 90,qQ 3 92 (.ixaA 2 7 (.t 91) (.c (.i 1))),fA 4 93 0 92,.mk4 5 none (.store 1 (.t 93) (.c (.i 2))) none] [0,1,8]) (c101_4)
def c101_6:AC :=
 .seq (.region 0 [mV 0 81 0,nC 1 82 81,fA 2 83 288 82,lD 3 84 83,lL 4 85 84,bC 5 86 .geq 85 (.i 1000),mV 6 80 86] [0,1,2,80]) (.cond (.t 80) (.seq (.region 0 [mC 0 6 (.i 0),mC 1 7 (.i 112)] [6,7]) (.ret)) (.skip))
def c101_7:AC :=
 .seq (.region 0 [mV 0 58 0,nC 1 59 58,fA 2 60 288 59,lD 3 61 60,mV 4 62 1,iS 5 63 1 61 62,lD 6 64 63,nC 7 65 64,fA 8 66 16 65,lD 9 67 66,lL 10 68 67,mV 11 69 0,nC 12 70 69,fA 13 71 288 70,lD 14 72 71,mV 15 73 1,iS 16 74 1 72 73,lD 17 75 74,nC 18 76 75,fA 19 77 15 76,lD 20 78 77,bB 21 79 .geq 68 78,mV 22 57 79] [0,1,2,57]) (.cond (.t 57) (.seq (.region 0 [mC 0 6 (.i 0),mC 1 7 (.i 113)] [6,7]) (.ret)) (c101_6))
def c101_8:AC :=
 .seq (.region 0 [mV 0 54 2,aA 1 55 126 54,qQ 2 56 (.un .not (.t 55)),mV 3 53 56] [0,1,2,53]) (.cond (.t 53) (.seq (.region 0 [mC 0 6 (.i 0),mC 1 7 (.i 2)] [6,7]) (.ret)) (c101_7))
def c101_9:AC :=
 .seq (.region 0 [mV 0 14 1,bC 1 15 .lss 14 (.i 0),mV 2 16 15,gM 3 17 1 16 false,gM 4 18 0 16 false,gG 5 19 (.nilck (.t 18)) 16 false,gF 6 20 288 19 16 false,gL 7 21 20 16 false,gG 8 22 (.lenL (.t 21)) 16 false,gG 9 23 (.bin .geq (.t 17) (.t 22)) 16 false,pC 10 24 16 (.bool true) 23,mV 11 25 24,gM 12 26 0 25 false,gG 13 27 (.nilck (.t 26)) 25 false,gF 14 28 288 27 25 false,gL 15 29 28 25 false,gM 16 30 1 25 false,gG 17 31 (.ixaS 1 (.t 29) (.t 30)) 25 false,gL 18 32 31 25 false,gG 19 33 (.nilck (.t 32)) 25 false,gF 20 34 15 33 25 false,gL 21 35 34 25 false,gG 22 36 (.bin .eql (.t 35) (.c (.i 0))) 25 false,pC 23 37 25 (.bool true) 36,mV 24 38 37,gM 25 39 0 38 false,gG 26 40 (.nilck (.t 39)) 38 false,gF 27 41 288 40 38 false,gL 28 42 41 38 false,gM 29 43 1 38 false,gG 30 44 (.ixaS 1 (.t 42) (.t 43)) 38 false,gL 31 45 44 38 false,gG 32 46 (.nilck (.t 45)) 38 false,gF 33 47 0 46 38 false,gG 34 48 (.ixaA 2 7 (.t 47) (.c (.i 0))) 38 false,gF 35 49 0 48 38 false,gL 36 50 49 38 false,gG 37 51 (.bin .neq (.t 50) (.c (.i 1))) 38 false,pC 38 52 38 (.bool true) 51,mV 39 13 52] [0,1,2,13]) (.cond (.t 13) (.seq (.region 0 [mC 0 6 (.i 0),mC 1 7 (.i 116)] [6,7]) (.ret)) (c101_8))
def c101_10:AC :=
 .seq (.block 0 (.seq (.region 0 [mV 0 11 0,aA 1 12 43 11,mV 2 10 12] [0,1,2,10]) (.cond (.t 10) (.seq (.region 0 [mC 0 6 (.i 0),mC 1 7 (.i 1)] [6,7]) (.ret)) (c101_9)))) (.seq (.region 0 [mV 0 87 2,aA 1 88 81 87,mV 2 8 88] [0,1,8]) (c101_5))
def c101:AFn:=⟨3,143,[.tmp 6,.tmp 7],(.seq (.region 0 [mC 0 6 (.i 0),mC 1 7 (.i 0)] [0,1,2]) (c101_10))⟩
def c102_0:AC :=
 .seq (.region 0 [mV 0 143 0,nC 1 144 143,fA 2 145 0 144,lD 3 146 145,lL 4 147 146,bC 5 148 .sub 147 (.i 1),mV 6 6 148,mC 7 7 (.i 0)] [6,7]) (.ret)
def c102_1:AC :=
 .seq (.region 1 [mV 0 133 0,mV 1 134 0,nC 2 135 134,fA 3 136 0 135,lD 4 137 136,lN 5 138 20 8,⟨6,(some 139),.bslice 20 1 [.i 0,.i 0,.bool false,.bool false,.nils,.bool false,.int .u64 0,.int .u64 0,.i 0,.i 0,.bool false,.bool false,.nils,.bool false,.int .u64 0,.int .u64 0,.i 0,.bool false,.i 0,.nils] [(0,(.t 138))],none,some 0,[]⟩,qQ 7 140 (.append 20 192 (.t 137) (.t 139)),nC 8 141 133,fA 9 142 0 141,sT 10 1 142 140] [0]) (c102_0)
def c102_2:AC :=
 .seq (.region 0 [mV 0 118 0,nC 1 119 118,fA 2 120 0 119,lD 3 121 120,mV 4 122 1,iS 5 123 20 121 122,fA 6 124 0 123,qQ 7 125 (.ixaA 2 8 (.t 124) (.c (.i 0))),fA 8 126 6 125,lD 9 127 126,bC 10 128 .add 127 (.int .u64 1),iS 11 129 20 121 122,fA 12 130 0 129,qQ 13 131 (.ixaA 2 8 (.t 130) (.c (.i 0))),fA 14 132 6 131,sT 15 1 132 128] [0,8]) (c102_1)
def c102_3:AC :=
 .seq (.region 1 [mV 0 103 0,nC 1 104 103,fA 2 105 0 104,lD 3 106 105,mV 4 107 1,mV 5 108 10,mV 6 109 0,nC 7 110 109,fA 8 111 0 110,lD 9 112 111,lL 10 113 112,⟨11,(some 114),.bslice 1 1 [.i 0] [(0,(.t 113))],none,some 0,[]⟩,⟨12,(some 115),.append 1 8 (.t 108) (.t 114),none,none,[(106,.load1 (.t 105),none)]⟩,iS 13 116 20 106 107,fA 14 117 19 116,sT 15 1 117 115] [0,1,8]) (c102_2)
def c102_4:AC :=
 .seq (.region 0 [mV 0 93 10,mV 1 94 0,nC 2 95 94,fA 3 96 0 95,lD 4 97 96,mV 5 98 1,iS 6 99 20 97 98,fA 7 100 19 99,lD 8 101 100,qQ 9 102 (.append 1 8 (.t 93) (.t 101)),mV 10 10 102] [0,1,8,10]) (c102_3)
def c102_5:AC :=
 .seq (.region 0 [mV 0 82 9,fA 1 83 0 8,iA 2 84 2 8 83 82,fA 3 85 2 84,.mk4 4 none (.store 1 (.t 85) (.c (.bool true))) none] [0,1,8,9]) (.region 0 [mV 0 86 9,fA 1 87 0 8,iA 2 88 2 8 87 86,fA 3 89 3 88,.mk4 4 none (.store 1 (.t 89) (.c (.bool true))) none] [0,1,8,9])
def c102_6:AC :=
 .seq (.seq (.region 0 [mV 0 78 9,bC 1 79 .lss 78 (.i 2)] [0,1,8,9,79]) (.cond (.t 79) (.skip) (.exit 0))) (.seq (.block 1 (c102_5)) (.region 0 [mV 0 80 9,bC 1 81 .add 80 (.i 1),mV 2 9 81] [0,1,8,9]))
def c102_7:AC :=
 .seq (.region 0 [fA 0 90 0 8,qQ 1 91 (.ixaA 2 8 (.t 90) (.c (.i 1))),fA 2 92 0 91,.mk4 3 none (.store 1 (.t 92) (.c (.i 2))) none] [0,1,8]) (.seq (.region 0 [mC 0 10 (.nils)] [0,1,8,10]) (c102_4))
def c102_8:AC :=
 .seq (.region 0 [mV 0 76 2,qQ 1 77 (.build [.i 0,.i 0,.bool false,.bool false,.nils,.bool false,.int .u64 0,.int .u64 0,.i 0,.i 0,.bool false,.bool false,.nils,.bool false,.int .u64 0,.int .u64 0,.i 0,.bool false,.i 0,.nils] [(16,1,(.t 76))]),qQ 2 8 (.alloc 20 [.i 0,.i 0,.bool false,.bool false,.nils,.bool false,.int .u64 0,.int .u64 0,.i 0,.i 0,.bool false,.bool false,.nils,.bool false,.int .u64 0,.int .u64 0,.i 0,.bool false,.i 0,.nils]),sT 3 20 8 77] [0,1,8]) (.seq (.seq (.region 0 [mC 0 9 (.i 0)] [0,1,8,9]) (.block 0 (.loop [0,1,8,9] (c102_6)))) (c102_7))
def c102_9:AC :=
 .seq (.seq (.region 0 [mV 0 70 0,nC 1 71 70,fA 2 72 0 71,lD 3 73 72,lL 4 74 73,bC 5 75 .geq 74 (.i 1000)] [0,1,2,75]) (.cond (.t 75) (.seq (.region 0 [mC 0 6 (.i 0),mC 1 7 (.i 112)] [6,7]) (.ret)) (.skip))) (c102_8)
def c102_10:AC :=
 .seq (.seq (.region 0 [mV 0 52 0,nC 1 53 52,fA 2 54 0 53,lD 3 55 54,mV 4 56 1,iS 5 57 20 55 56,fA 6 58 19 57,lD 7 59 58,lL 8 60 59,mV 9 61 0,nC 10 62 61,fA 11 63 0 62,lD 12 64 63,mV 13 65 1,iS 14 66 20 64 65,fA 15 67 18 66,lD 16 68 67,bB 17 69 .geq 60 68] [0,1,2,69]) (.cond (.t 69) (.seq (.region 0 [mC 0 6 (.i 0),mC 1 7 (.i 113)] [6,7]) (.ret)) (.skip))) (c102_9)
def c102_11:AC :=
 .seq (.seq (.region 0 [mV 0 46 2,bC 1 47 .lss 46 (.i 1),mV 2 48 47,gM 3 49 2 48 false,gG 4 50 (.bin .gtr (.t 49) (.c (.i 65536))) 48 false,pC 5 51 48 (.bool true) 50] [0,1,2,51]) (.cond (.t 51) (.seq (.region 0 [mC 0 6 (.i 0),mC 1 7 (.i 2)] [6,7]) (.ret)) (.skip))) (c102_10)
def c102_12:AC :=
 .seq (.seq (.region 0 [mV 0 11 1,bC 1 12 .lss 11 (.i 0),mV 2 13 12,gM 3 14 1 13 false,gM 4 15 0 13 false,gG 5 16 (.nilck (.t 15)) 13 false,gF 6 17 0 16 13 false,gL 7 18 17 13 false,gG 8 19 (.lenL (.t 18)) 13 false,gG 9 20 (.bin .geq (.t 14) (.t 19)) 13 false,pC 10 21 13 (.bool true) 20,mV 11 22 21,gM 12 23 0 22 false,gG 13 24 (.nilck (.t 23)) 22 false,gF 14 25 0 24 22 false,gL 15 26 25 22 false,gM 16 27 1 22 false,gG 17 28 (.ixaS 20 (.t 26) (.t 27)) 22 false,gF 18 29 18 28 22 false,gL 19 30 29 22 false,gG 20 31 (.bin .eql (.t 30) (.c (.i 0))) 22 false,pC 21 32 22 (.bool true) 31,mV 22 33 32,gM 23 34 0 33 false,gG 24 35 (.nilck (.t 34)) 33 false,gF 25 36 0 35 33 false,gL 26 37 36 33 false,gM 27 38 1 33 false,gG 28 39 (.ixaS 20 (.t 37) (.t 38)) 33 false,gF 29 40 0 39 33 false,gG 30 41 (.ixaA 2 8 (.t 40) (.c (.i 0))) 33 false,gF 31 42 0 41 33 false,gL 32 43 42 33 false,gG 33 44 (.bin .neq (.t 43) (.c (.i 1))) 33 false,pC 34 45 33 (.bool true) 44] [0,1,2,45]) (.cond (.t 45) (.seq (.region 0 [mC 0 6 (.i 0),mC 1 7 (.i 116)] [6,7]) (.ret)) (.skip))) (c102_11)
def c102:AFn:=⟨3,149,[.tmp 6,.tmp 7],(.seq (.region 0 [mC 0 6 (.i 0),mC 1 7 (.i 0)] [0,1,2]) (c102_12))⟩
def c103_0:AC :=
 .region 0 [mV 0 7 0,nC 1 8 7,fA 2 9 290 8,lD 3 10 9,mV 4 11 1,mV 5 12 0,nC 6 13 12,fA 7 14 290 13,lD 8 15 14,qQ 9 16 (.bin .sub (.c (.int .u64 18446744073709551615)) (.t 15)),qQ 10 17 (.minI [(.t 11),(.t 16)]),bB 11 18 .add 10 17,nC 12 19 7,fA 13 20 290 19,sT 14 1 20 18] []
def c103:AFn:=⟨2,21,[],(.seq (.region 0 [mV 0 4 0,aA 1 5 43 4,qQ 2 6 (.un .not (.t 5))] [0,1,6]) (.cond (.t 6) (c103_0) (.skip)))⟩
def c104_0:AC :=
 .region 0 [mV 0 14 0,mV 1 15 0,nC 2 16 15,fA 3 17 1 16,lD 4 18 17,mV 5 19 1,bB 6 20 .add 18 19,nC 7 21 14,fA 8 22 1 21,sT 9 1 22 20] []
def c104_1:AC :=
 .seq (.seq (.region 0 [mV 0 4 1,mV 1 5 0,nC 2 6 5,fA 3 7 1 6,lD 4 8 7,qQ 5 9 (.bin .sub (.c (.int .u64 18446744073709551615)) (.t 8)),bB 6 10 .gtr 4 9] [0,1,10]) (.cond (.t 10) (.seq (.region 0 [mV 0 11 0,nC 1 12 11,fA 2 13 1 12,.mk4 3 none (.store 1 (.t 13) (.c (.int .u64 18446744073709551615))) none] []) (.ret)) (.skip))) (c104_0)
def c104:AFn:=⟨2,23,[],(c104_1)⟩
def c105_0:AC :=
 .seq (.region 0 [mV 0 10 0,nC 1 11 10,fA 2 12 289 11,lD 3 13 12,mV 4 14 1,mV 5 15 2,aC 6 16 133 13 14 15,mV 7 7 16] [0,7]) (.seq (.region 0 [mV 0 17 0,aA 1 18 134 17] [7]) (.seq (.region 0 [mV 0 19 7,mV 1 6 19] [6]) (.ret)))
def c105:AFn:=⟨3,20,[.tmp 6],(.seq (.region 0 [mC 0 6 (.i 0)] [0,1,2]) (.seq (.seq (.region 0 [mV 0 8 0,aA 1 9 43 8] [0,1,2,9]) (.cond (.t 9) (.seq (.region 0 [mC 0 6 (.i 1)] [6]) (.ret)) (.skip))) (c105_0)))⟩
def c106_0:AC :=
 .cond (.t 22) (.region 0 [mV 0 23 0,mV 1 24 1,nC 2 25 23,fA 3 26 34 25,iA 4 27 32 1 26 24,.mk4 5 none (.store 1 (.t 27) (.c (.i 0))) none] [0]) (.skip)
def c106_1:AC :=
 .seq (.seq (.region 0 [mV 0 21 2,qQ 1 22 (.un .not (.t 21))] [0,1,22]) (c106_0)) (.seq (.region 0 [mV 0 28 0,aA 1 29 135 28] []) (.seq (.region 0 [mC 0 6 (.i 0)] [6]) (.ret)))
def c106_2:AC :=
 .seq (.region 0 [mV 0 15 0,mV 1 16 1,mV 2 17 2,nC 3 18 15,fA 4 19 2 18,iA 5 20 32 1 19 16,sT 6 1 20 17] [0,1,2]) (c106_1)
def c106_3:AC :=
 .seq (.seq (.region 0 [mV 0 7 1,bC 1 8 .lss 7 (.i 1),mV 2 9 8,gM 3 10 1 9 false,gG 4 11 (.bin .gtr (.t 10) (.c (.i 31))) 9 false,pC 5 12 9 (.bool true) 11] [0,1,2,12]) (.cond (.t 12) (.seq (.region 0 [mV 0 13 0,aA 1 14 135 13] []) (.seq (.region 0 [mC 0 6 (.i 100)] [6]) (.ret))) (.skip))) (c106_2)
def c106:AFn:=⟨3,30,[.tmp 6],(.seq (.region 0 [mC 0 6 (.i 0)] [0,1,2]) (c106_3))⟩
def c107_0:AC :=
 .seq (.region 0 [mV 0 8 0,nC 1 9 8,fA 2 10 289 9,lD 3 11 10,mV 4 12 1,aB 5 13 136 11 12,mV 6 5 13] [0,5]) (.seq (.region 0 [mV 0 14 0,aA 1 15 134 14] [5]) (.seq (.region 0 [mV 0 16 5,mV 1 4 16] [4]) (.ret)))
def c107:AFn:=⟨2,17,[.tmp 4],(.seq (.region 0 [mC 0 4 (.i 0)] [0,1]) (.seq (.seq (.region 0 [mV 0 6 0,aA 1 7 43 6] [0,1,7]) (.cond (.t 7) (.seq (.region 0 [mC 0 4 (.i 1)] [4]) (.ret)) (.skip))) (c107_0)))⟩
def c108_0:AC :=
 .region 0 [mV 0 19 0,mV 1 20 1,nC 2 21 19,fA 3 22 34 21,iA 4 23 32 1 22 20,lD 5 24 23,bC 6 25 .add 24 (.i 1),nC 7 26 19,fA 8 27 34 26,iA 9 28 32 1 27 20,sT 10 1 28 25] [0]
def c108_1:AC :=
 .seq (.seq (.region 0 [mV 0 13 0,mV 1 14 1,nC 2 15 13,fA 3 16 2 15,iA 4 17 32 1 16 14,lD 5 18 17] [0,1,18]) (.cond (.t 18) (c108_0) (.skip))) (.seq (.region 0 [mV 0 29 0,aA 1 30 135 29] []) (.seq (.region 0 [mC 0 4 (.i 0)] [4]) (.ret)))
def c108_2:AC :=
 .seq (.seq (.region 0 [mV 0 5 1,bC 1 6 .lss 5 (.i 1),mV 2 7 6,gM 3 8 1 7 false,gG 4 9 (.bin .gtr (.t 8) (.c (.i 31))) 7 false,pC 5 10 7 (.bool true) 9] [0,1,10]) (.cond (.t 10) (.seq (.region 0 [mV 0 11 0,aA 1 12 135 11] []) (.seq (.region 0 [mC 0 4 (.i 100)] [4]) (.ret))) (.skip))) (c108_1)
def c108:AFn:=⟨2,31,[.tmp 4],(.seq (.region 0 [mC 0 4 (.i 0)] [0,1]) (c108_2))⟩
def c109_0:AC :=
 .seq (.region 0 [mV 0 6 0,nC 1 7 6,fA 2 8 289 7,lD 3 9 8,aA 4 10 137 9,mV 5 3 10] [0,3]) (.seq (.region 0 [mV 0 11 0,aA 1 12 134 11] [3]) (.seq (.region 0 [mV 0 13 3,mV 1 2 13] [2]) (.ret)))
def c109:AFn:=⟨1,14,[.tmp 2],(.seq (.region 0 [mC 0 2 (.nils)] [0]) (.seq (.seq (.region 0 [mV 0 4 0,aA 1 5 43 4] [0,5]) (.cond (.t 5) (.seq (.region 0 [mC 0 2 (.nils)] [2]) (.ret)) (.skip))) (c109_0)))⟩
def c110_0:AC :=
 .region 0 [mV 0 16 3,mV 1 17 4,mV 2 18 0,mV 3 19 4,nC 4 20 18,fA 5 21 34 20,iA 6 22 32 1 21 19,lD 7 23 22,qQ 8 24 (.build [.i 0,.i 0] [(0,1,(.t 17)),(1,1,(.t 23))]),qQ 9 25 (.bslice 2 1 [.i 0,.i 0] [(0,(.t 24))]),qQ 10 26 (.append 2 16 (.t 16) (.t 25)),mV 11 3 26] [0,3,4]
def c110_1:AC :=
 .seq (.seq (.region 0 [mV 0 9 0,mV 1 10 4,nC 2 11 9,fA 3 12 34 11,iA 4 13 32 1 12 10,lD 5 14 13,bC 6 15 .gtr 14 (.i 0)] [0,3,4,15]) (.cond (.t 15) (c110_0) (.skip))) (.region 0 [mV 0 27 0,mV 1 28 4,nC 2 29 27,fA 3 30 34 29,iA 4 31 32 1 30 28,.mk4 5 none (.store 1 (.t 31) (.c (.i 0))) none] [0,3,4])
def c110_2:AC :=
 .seq (.seq (.region 0 [mV 0 5 4,bC 1 6 .leq 5 (.i 31)] [0,3,4,6]) (.cond (.t 6) (.skip) (.exit 0))) (.seq (.block 1 (c110_1)) (.region 0 [mV 0 7 4,bC 1 8 .add 7 (.i 1),mV 2 4 8] [0,3,4]))
def c110_3:AC :=
 .seq (.seq (.region 0 [mC 0 4 (.i 1)] [0,3,4]) (.block 0 (.loop [0,3,4] (c110_2)))) (.seq (.region 0 [mV 0 32 0,aA 1 33 135 32] [3]) (.seq (.region 0 [mV 0 34 3,mV 1 2 34] [2]) (.ret)))
def c110:AFn:=⟨1,35,[.tmp 2],(.seq (.region 0 [mC 0 2 (.nils)] [0]) (.seq (.region 0 [mC 0 3 (.nils)] [0,3]) (c110_3)))⟩
def c111_0:AC :=
 .seq (.region 0 [fA 0 36 1 7,lD 1 37 36,fA 2 38 1 10,lD 3 39 38,bB 4 40 .neq 37 39,mV 5 41 40,gF 6 42 2 7 41 false,gL 7 43 42 41 false,gF 8 44 2 10 41 false,gL 9 45 44 41 false,gG 10 46 (.bin .eql (.t 43) (.t 45)) 41 false,pC 11 47 41 (.bool true) 46,mV 12 48 47,gM 13 49 8 48 false,gG 14 50 (.nilck (.t 49)) 48 false,gF 15 51 0 50 48 false,gG 16 52 (.ixaA 2 7 (.t 51) (.c (.i 0))) 48 false,gF 17 53 2 52 48 false,gL 18 54 53 48 false,gG 19 55 (.eq .ptr false (.t 54) (.c (.ptr none))) 48 false,pC 20 56 48 (.bool true) 55,mV 21 57 56,gM 22 58 8 57 false,gG 23 59 (.nilck (.t 58)) 57 false,gF 24 60 0 59 57 false,gG 25 61 (.ixaA 2 7 (.t 60) (.c (.i 1))) 57 false,gF 26 62 2 61 57 false,gL 27 63 62 57 false,gG 28 64 (.eq .ptr false (.t 63) (.c (.ptr none))) 57 false,pC 29 65 57 (.bool true) 64,mV 30 35 65] [0,7,35]) (.cond (.t 35) (.seq (.region 0 [mC 0 6 (.i 111)] [6]) (.ret)) (.skip))
def c111_1:AC :=
 .seq (.region 0 [mV 0 32 12,bC 1 33 .neq 32 (.i 0),mV 2 31 33] [0,7,8,10,12,31]) (.cond (.t 31) (.seq (.region 0 [mV 0 34 12,mV 1 6 34] [6]) (.ret)) (c111_0))
def c111_2:AC :=
 .seq (.region 0 [mV 0 28 9,bC 1 29 .neq 28 (.i 0),mV 2 27 29] [0,7,8,9,10,12,27]) (.cond (.t 27) (.seq (.region 0 [mV 0 30 9,mV 1 6 30] [6]) (.ret)) (c111_1))
def c111_3:AC :=
 .seq (.region 0 [mV 0 66 0,lN 1 67 3 7,nC 2 68 66,fA 3 69 291 68,sT 4 3 69 67] [0]) (.seq (.region 0 [mV 0 70 0,aA 1 71 134 70] []) (.seq (.region 0 [mC 0 6 (.i 0)] [6]) (.ret)))
def c111_4:AC :=
 .seq (.region 0 [mV 0 21 0,mV 1 22 2,aB 2 23 44 21 22,mV 3 20 23,eX 4 24 20 0,eX 5 25 20 1,eX 6 26 20 2,qQ 7 10 (.alloc 3 [.bool false,.i 0,.i 0]),sT 8 3 10 24,mV 9 11 25,mV 10 12 26] [0,7,8,9,10,12]) (.seq (.block 0 (c111_2)) (c111_3))
def c111_5:AC :=
 .seq (.region 0 [mV 0 14 0,mV 1 15 1,aB 2 16 44 14 15,mV 3 13 16,eX 4 17 13 0,eX 5 18 13 1,eX 6 19 13 2,qQ 7 7 (.alloc 3 [.bool false,.i 0,.i 0]),sT 8 3 7 17,mV 9 8 18,mV 10 9 19] [0,2,7,8,9]) (c111_4)
def c111:AFn:=⟨3,72,[.tmp 6],(.seq (.region 0 [mC 0 6 (.i 0)] [0,1,2]) (c111_5))⟩
def c112_0:AC :=
 .seq (.region 0 [mV 0 67 0,mV 1 68 8,nC 2 69 67,fA 3 70 67 69,sT 4 1 70 68] [0]) (.seq (.region 0 [mV 0 71 0,aA 1 72 135 71] []) (.seq (.region 0 [mC 0 6 (.i 0)] [6]) (.ret)))
def c112_1:AC :=
 .seq (.seq (.region 0 [mV 0 29 7,mV 1 30 9,bB 2 31 .neq 29 30,mV 3 32 31,gM 4 33 8 32 false,gM 5 34 10 32 false,gG 6 35 (.bin .eql (.t 33) (.t 34)) 32 false,pC 7 36 32 (.bool true) 35,mV 8 37 36,gM 9 38 0 37 false,gG 10 39 (.nilck (.t 38)) 37 false,gF 11 40 0 39 37 false,gL 12 41 40 37 false,gM 13 42 7 37 false,gG 14 43 (.ixaS 20 (.t 41) (.t 42)) 37 false,gF 15 44 0 43 37 false,gG 16 45 (.ixaA 2 8 (.t 44) (.c (.i 0))) 37 false,gF 17 46 2 45 37 false,gL 18 47 46 37 false,gG 19 48 (.un .not (.t 47)) 37 false,pC 20 49 37 (.bool true) 48,mV 21 50 49,gM 22 51 0 50 false,gG 23 52 (.nilck (.t 51)) 50 false,gF 24 53 0 52 50 false,gL 25 54 53 50 false,gM 26 55 7 50 false,gG 27 56 (.ixaS 20 (.t 54) (.t 55)) 50 false,gF 28 57 0 56 50 false,gG 29 58 (.ixaA 2 8 (.t 57) (.c (.i 1))) 50 false,gF 30 59 2 58 50 false,gL 31 60 59 50 false,gG 32 61 (.un .not (.t 60)) 50 false,pC 33 62 50 (.bool true) 61] [0,7,8,62]) (.cond (.t 62) (.seq (.region 0 [mC 0 6 (.i 111)] [6]) (.ret)) (.skip))) (.seq (.region 0 [mV 0 63 0,mV 1 64 7,nC 2 65 63,fA 3 66 66 65,sT 4 1 66 64] [0,8]) (c112_0))
def c112_2:AC :=
 .seq (.seq (.region 0 [mV 0 23 7,bC 1 24 .lss 23 (.i 0),mV 2 25 24,gM 3 26 9 25 false,gG 4 27 (.bin .lss (.t 26) (.c (.i 0))) 25 false,pC 5 28 25 (.bool true) 27] [0,7,8,9,10,28]) (.cond (.t 28) (.seq (.region 0 [mC 0 6 (.i 110)] [6]) (.ret)) (.skip))) (c112_1)
def c112_3:AC :=
 .seq (.region 0 [mV 0 18 0,mV 1 19 2,aB 2 20 48 18 19,mV 3 17 20,eX 4 21 17 0,eX 5 22 17 1,mV 6 9 21,mV 7 10 22] [0,7,8,9,10]) (c112_2)
def c112_4:AC :=
 .seq (.region 0 [mV 0 12 0,mV 1 13 1,aB 2 14 48 12 13,mV 3 11 14,eX 4 15 11 0,eX 5 16 11 1,mV 6 7 15,mV 7 8 16] [0,2,7,8]) (c112_3)
def c112:AFn:=⟨3,73,[.tmp 6],(.seq (.region 0 [mC 0 6 (.i 0)] [0,1,2]) (c112_4))⟩
def c113_0:AC :=
 .seq (.region 0 [mV 0 10 0,mV 1 11 1,aB 2 12 44 10 11,mV 3 9 12,eX 4 13 9 0,eX 5 14 9 1,eX 6 15 9 2,qQ 7 6 (.alloc 3 [.bool false,.i 0,.i 0]),sT 8 3 6 13,mV 9 7 14,mV 10 8 15] [6,8]) (.seq (.region 0 [fA 0 16 1 6,lD 1 17 16,mV 2 18 8,mV 3 4 17,mV 4 5 18] [4,5]) (.ret))
def c113:AFn:=⟨2,19,[.tmp 4,.tmp 5],(.seq (.region 0 [mC 0 4 (.i 0),mC 1 5 (.i 0)] [0,1]) (c113_0))⟩
def c114_0:AC :=
 .seq (.seq (.region 0 [mV 0 14 6,bC 1 15 .lss 14 (.i 0)] [6,15]) (.cond (.t 15) (.seq (.region 0 [mC 0 4 (.i 0),mC 1 5 (.i 110)] [4,5]) (.ret)) (.skip))) (.seq (.region 0 [mV 0 16 6,mV 1 4 16,mC 2 5 (.i 0)] [4,5]) (.ret))
def c114_1:AC :=
 .seq (.region 0 [mV 0 9 0,mV 1 10 1,aB 2 11 48 9 10,mV 3 8 11,eX 4 12 8 0,eX 5 13 8 1,mV 6 6 12,mV 7 7 13] [6]) (c114_0)
def c114:AFn:=⟨2,17,[.tmp 4,.tmp 5],(.seq (.region 0 [mC 0 4 (.i 0),mC 1 5 (.i 0)] [0,1]) (c114_1))⟩
def c115_0:AC :=
 .seq (.region 0 [mV 0 46 0,nC 1 47 46,fA 2 48 3 47,lD 3 49 48,mV 4 50 1,lL 5 51 50,qQ 6 52 (.convInt .u64 (.t 51)),bB 7 53 .add 49 52,nC 8 54 46,fA 9 55 3 54,sT 10 1 55 53] [1]) (.seq (.region 0 [mV 0 56 1,lL 1 57 56,mV 2 4 57] [4]) (.ret))
def c115_1:AC :=
 .region 0 [lD 0 32 5,mV 1 33 6,lD 2 34 5,⟨3,(some 35),.copy 1 (.t 33) (.t 34),none,none,[(32,.load1 (.t 5),none)]⟩,qQ 4 36 (.slice 1 (.t 32) (some (.t 35)) none none),sT 5 1 5 36] []
def c115_2:AC :=
 .seq (.region 0 [mV 0 37 0,nC 1 38 37,fA 2 39 2 38,lD 3 40 39,mV 4 41 1,lL 5 42 41,bB 6 43 .add 40 42,nC 7 44 37,fA 8 45 2 44,sT 9 1 45 43] [0,1]) (c115_0)
def c115_3:AC :=
 .seq (.seq (.region 0 [mV 0 18 0,mV 1 19 0,nC 2 20 19,fA 3 21 1 20,lD 4 22 21,mV 5 23 0,nC 6 24 23,fA 7 25 2 24,lD 8 26 25,bB 9 27 .add 22 26,mV 10 28 1,lL 11 29 28,aC 12 30 138 18 27 29] [0,1,5,30]) (.block 0 (.rangeFunc (.t 30) [31] [5] (.region 0 [mV 0 6 31] [5,6]) (.block 1 (c115_1))))) (c115_2)
def c115_4:AC :=
 .seq (.seq (.region 0 [mV 0 14 1,lL 1 15 14,bC 2 16 .eql 15 (.i 0)] [0,1,16]) (.cond (.t 16) (.seq (.region 0 [mC 0 4 (.i 0)] [4]) (.ret)) (.skip))) (.seq (.region 0 [mV 0 17 1,qQ 1 5 (.alloc 1 [.nils]),sT 2 1 5 17] [0,1,5]) (c115_3))
def c115_5:AC :=
 .seq (.region 0 [mV 0 7 1,mV 1 8 1,lL 2 9 8,mV 3 10 0,aA 4 11 47 10,qQ 5 12 (.minI [(.t 9),(.t 11)]),qQ 6 13 (.slice 1 (.t 7) none (some (.t 12)) none),mV 7 1 13] [0,1]) (c115_4)
def c115:AFn:=⟨2,58,[.tmp 4],(.seq (.region 0 [mC 0 4 (.i 0)] [0,1]) (c115_5))⟩
def c116_0:AC :=
 .region 0 [mV 0 41 0,mV 1 42 1,nC 2 43 41,fA 3 44 0 43,iA 4 45 2 7 44 42,fA 5 46 6 45,lD 6 47 46,bC 7 48 .add 47 (.int .u64 1),nC 8 49 41,fA 9 50 0 49,iA 10 51 2 7 50 42,fA 11 52 6 51,sT 12 1 52 48] []
def c116_1:AC :=
 .region 0 [mV 0 19 0,mV 1 20 1,nC 2 21 19,fA 3 22 0 21,iA 4 23 2 7 22 20,fA 5 24 5 23,lD 6 25 24,bC 7 26 .add 25 (.int .u64 1),nC 8 27 19,fA 9 28 0 27,iA 10 29 2 7 28 20,fA 11 30 5 29,sT 12 1 30 26] [0,1,3]
def c116_2:AC :=
 .seq (.region 0 [mV 0 31 3,mV 1 32 31,gM 2 33 0 32 true,gM 3 34 1 32 true,gG 4 35 (.nilck (.t 33)) 32 true,gF 5 36 0 35 32 true,gG 6 37 (.ixaA 2 7 (.t 36) (.t 34)) 32 true,gF 7 38 3 37 32 true,gL 8 39 38 32 true,pT 9 40 32 39 (.bool false)] [0,1,40]) (.cond (.t 40) (c116_0) (.skip))
def c116_3:AC :=
 .seq (.seq (.region 0 [mV 0 8 2,mV 1 9 8,gM 2 10 0 9 true,gM 3 11 1 9 true,gG 4 12 (.nilck (.t 10)) 9 true,gF 5 13 0 12 9 true,gG 6 14 (.ixaA 2 7 (.t 13) (.t 11)) 9 true,gF 7 15 2 14 9 true,gL 8 16 15 9 true,gG 9 17 (.eq .ptr true (.t 16) (.c (.ptr none))) 9 true,pT 10 18 9 17 (.bool false)] [0,1,3,18]) (.cond (.t 18) (c116_1) (.skip))) (c116_2)
def c116:AFn:=⟨4,53,[],(c116_3)⟩
def c117_0:AC :=
 .region 0 [mV 0 37 0,nC 1 38 37,fA 2 39 4 38,lD 3 40 39,mV 4 41 5,lL 5 42 41,qQ 6 43 (.convInt .u64 (.t 42)),bB 7 44 .add 40 43,nC 8 45 37,fA 9 46 4 45,sT 10 1 46 44] [5]
def c117_1:AC :=
 .seq (.region 0 [mV 0 28 0,nC 1 29 28,fA 2 30 2 29,lD 3 31 30,mV 4 32 5,lL 5 33 32,bB 6 34 .sub 31 33,nC 7 35 28,fA 8 36 2 35,sT 9 1 36 34] [0,5]) (c117_0)
def c117_2:AC :=
 .seq (.region 0 [mV 0 12 0,mV 1 13 0,nC 2 14 13,fA 3 15 1 14,lD 4 16 15,mV 5 17 5,lL 6 18 17,bB 7 19 .add 16 18,mV 8 20 0,nC 9 21 20,fA 10 22 0 21,lD 11 23 22,lL 12 24 23,bB 13 25 .rem 19 24,nC 14 26 12,fA 15 27 1 26,sT 16 1 27 25] [0,5]) (c117_1)
def c117_3:AC :=
 .seq (.seq (.region 0 [mV 0 9 5,lL 1 10 9,bC 2 11 .gtr 10 (.i 0)] [0,5,11]) (.cond (.t 11) (c117_2) (.skip))) (.seq (.region 0 [mV 0 47 5,mV 1 4 47] [4]) (.ret))
def c117:AFn:=⟨2,48,[.tmp 4],(.seq (.region 0 [mC 0 4 (.nils)] [0,1]) (.seq (.region 0 [mV 0 6 0,mV 1 7 1,aB 2 8 139 6 7,mV 3 5 8] [0,5]) (c117_3)))⟩
def c118_0:AC :=
 .seq (.region 0 [fA 0 13 0 4,lD 1 14 13,qQ 2 15 (.un .not (.t 14)),mV 3 16 15,gM 4 17 0 16 true,gM 5 18 3 16 true,gG 6 19 (.callv (.t 17) [(.t 18)]) 16 true,gG 7 20 (.un .not (.t 19)) 16 true,pT 8 21 16 20 (.bool false)] [0,8,9,21]) (.cond (.t 21) (.ret) (.skip))
def c118_1:AC :=
 .seq (.block 1 (.seq (.region 0 [mV 0 11 9,qQ 1 12 (.ixA 96 3 (some 3) (.t 8) (.t 9)),qQ 2 4 (.alloc 3 [.bool false,.i 0,.i 0]),mV 3 3 11,sT 4 3 4 12] [0,3,4,8,9]) (c118_0))) (.region 0 [bC 0 22 .add 9 (.i 1),mV 1 9 22] [0,8,9])
def c118_2:AC :=
 .seq (.region 0 [lD 0 5 1,nC 1 6 5,fA 2 7 0 6,lN 3 8 288 7,mC 4 9 (.i 0)] [0,8,9]) (.block 0 (.loop [0,8,9] (.seq (.region 0 [bC 0 10 .lss 9 (.i 96)] [0,8,9,10]) (.seq (.cond (.t 10) (.skip) (.exit 0)) (c118_1)))))
def c118:AFn:=⟨2,23,[],(c118_2)⟩
def c119_0:AC :=
 .seq (.region 0 [mV 0 12 0,lD 1 13 2,lN 2 14 2 5,aB 3 15 120 13 14,qQ 4 16 (.callv (.t 12) [(.t 15)]),qQ 5 17 (.un .not (.t 16))] [0,2,6,7,8,17]) (.cond (.t 17) (.ret) (.skip))
def c119_1:AC :=
 .seq (.block 1 (.seq (.region 0 [iS 0 10 2 6 8,lN 1 11 2 10,qQ 2 5 (.alloc 2 [.i 0,.i 0]),sT 3 2 5 11] [0,2,5,6,7,8]) (c119_0))) (.region 0 [bC 0 18 .add 8 (.i 1),mV 1 8 18] [0,2,6,7,8])
def c119_2:AC :=
 .seq (.region 0 [lD 0 6 1,lL 1 7 6,mC 2 8 (.i 0)] [0,2,6,7,8]) (.block 0 (.loop [0,2,6,7,8] (.seq (.region 0 [bB 0 9 .lss 8 7] [0,2,6,7,8,9]) (.seq (.cond (.t 9) (.skip) (.exit 0)) (c119_1)))))
def c119:AFn:=⟨3,19,[],(c119_2)⟩
def c120_0:AC :=
 .cond (.t 32) (.region 0 [mV 0 33 6,fA 1 34 1 3,lD 2 35 34,qQ 3 36 (.bin .and (.c (.i 4)) (.t 35)),bB 4 37 .or 33 36,mV 5 6 37] [5,6]) (.skip)
def c120_1:AC :=
 .cond (.t 25) (.region 0 [mV 0 26 6,fA 1 27 1 3,lD 2 28 27,qQ 3 29 (.bin .and (.c (.i 1)) (.t 28)),bB 4 30 .or 26 29,mV 5 6 30] [3,5,6]) (.skip)
def c120_2:AC :=
 .seq (.seq (.region 0 [fA 0 31 2 5,lD 1 32 31] [3,5,6,32]) (c120_0)) (.seq (.region 0 [fA 0 38 4 5,lD 1 39 38] [6,39]) (.cond (.t 39) (.region 0 [mV 0 40 6,bC 1 41 .or 40 (.i 8),mV 2 6 41] [6]) (.skip)))
def c120_3:AC :=
 .seq (.seq (.region 0 [fA 0 16 0 5,lD 1 17 16,qQ 2 18 (.un .not (.t 17)),mV 3 15 18] [3,5,6,15]) (.cond (.t 15) (.exit 2) (.skip))) (.seq (.region 0 [fA 0 20 3 5,lD 1 21 20,mV 2 19 21] [3,5,6,19]) (.cond (.t 19) (.exit 3) (.skip)))
def c120_4:AC :=
 .seq (.block 1 (.seq (.seq (.seq (.region 0 [fA 0 12 0 3,lD 1 13 12,bC 2 14 .lss 13 (.i 0),mV 3 11 14] [3,5,6,11]) (.cond (.t 11) (.exit 1) (.skip))) (c120_3)) (.exit 4))) (.seq (.seq (.region 0 [mC 0 4 (.i 0)] [4]) (.ret)) (.exit 0))
def c120_5:AC :=
 .seq (.block 4 (.seq (.block 3 (.seq (.block 2 (c120_4)) (.seq (.seq (.region 0 [mC 0 4 (.i 32)] [4]) (.ret)) (.exit 0)))) (.region 0 [mV 0 22 6,bC 1 23 .or 22 (.i 16),mV 2 6 23] [3,5,6]))) (.seq (.seq (.seq (.region 0 [fA 0 24 1 5,lD 1 25 24] [3,5,6,25]) (c120_1)) (c120_2)) (.exit 0))
def c120_6:AC :=
 .seq (.region 0 [mV 0 7 0,fA 1 8 0 3,lD 2 9 8,aB 3 10 13 7 9,qQ 4 5 (.alloc 7 [.bool false,.bool false,.bool false,.bool false,.bool false,.int .u64 0,.int .u64 0]),sT 5 7 5 10] [3,5]) (.seq (.region 0 [mC 0 6 (.i 0)] [3,5,6]) (.seq (.block 0 (c120_5)) (.seq (.region 0 [mV 0 42 6,mV 1 4 42] [4]) (.ret))))
def c120:AFn:=⟨2,43,[.tmp 4],(.seq (.region 0 [qQ 0 3 (.box 2 (.t 1)),mC 1 4 (.i 0)] [0,3]) (c120_6))⟩
def c121_0:AC :=
 .seq (.seq (.region 0 [lN 0 24 2 2,mV 1 25 6,aB 2 26 34 24 25] [0,1,2,6,7,13,14,15,26]) (.cond (.t 26) (.region 0 [mV 0 27 7,bC 1 28 .or 27 (.i 4),mV 2 7 28] [0,1,2,6,7,13,14,15]) (.skip))) (.seq (.region 0 [mV 0 29 0,mV 1 30 6,mV 2 31 7,qQ 3 32 (.callv (.t 29) [(.t 30),(.t 31)]),qQ 4 33 (.un .not (.t 32))] [0,1,2,13,14,15,33]) (.cond (.t 33) (.ret) (.skip)))
def c121_1:AC :=
 .seq (.seq (.region 0 [lN 0 19 2 1,mV 1 20 6,aB 2 21 34 19 20] [0,1,2,6,7,13,14,15,21]) (.cond (.t 21) (.region 0 [mV 0 22 7,bC 1 23 .or 22 (.i 2),mV 2 7 23] [0,1,2,6,7,13,14,15]) (.skip))) (c121_0)
def c121_2:AC :=
 .seq (.block 1 (.seq (.region 0 [iS 0 17 1 13 15,lD 1 18 17,mV 2 6 18] [0,1,2,6,13,14,15]) (.seq (.region 0 [mC 0 7 (.i 0)] [0,1,2,6,7,13,14,15]) (c121_1)))) (.region 0 [bC 0 34 .add 15 (.i 1),mV 1 15 34] [0,1,2,13,14,15])
def c121_3:AC :=
 .seq (.region 0 [lN 0 8 2 1,lN 1 9 2 2,lD 3 11 3,mC 7 15 (.i 0),⟨2,(some 10),.call 31 [(.t 8),(.t 9)],none,none,[(11,.load1 (.t 3),none)]⟩,aB 4 12 29 10 11,aA 5 13 122 12,lL 6 14 13] [0,1,2,13,14,15]) (.block 0 (.loop [0,1,2,13,14,15] (.seq (.region 0 [bB 0 16 .lss 15 14] [0,1,2,13,14,15,16]) (.seq (.cond (.t 16) (.skip) (.exit 0)) (c121_2)))))
def c121:AFn:=⟨4,35,[],(c121_3)⟩
def c122_0:AC :=
 .seq (.region 0 [qQ 0 1 (.box 2 (.t 0)),mC 1 2 (.nils)] [1]) (.seq (.region 0 [lN 0 3 2 1,aA 1 4 75 3,aA 2 5 140 4,mV 3 2 5] [2]) (.ret))
def c122:AFn:=⟨1,6,[.tmp 2],(c122_0)⟩
def c123_0:AC :=
 .seq (.region 0 [lN 0 7 2 1,mV 1 8 3,aB 2 9 34 7 8,mV 3 10 9,gM 4 11 0 10 true,gM 5 12 3 10 true,gG 6 13 (.callv (.t 11) [(.t 12)]) 10 true,gG 7 14 (.un .not (.t 13)) 10 true,pT 8 15 10 14 (.bool false)] [0,1,4,15]) (.cond (.t 15) (.ret) (.skip))
def c123_1:AC :=
 .seq (.region 0 [bC 0 5 .lss 4 (.i 64)] [0,1,4,5]) (.seq (.cond (.t 5) (.skip) (.exit 0)) (.seq (.block 1 (.seq (.region 0 [mV 0 6 4,mV 1 3 6] [0,1,3,4]) (c123_0))) (.region 0 [bC 0 16 .add 4 (.i 1),mV 1 4 16] [0,1,4])))
def c123:AFn:=⟨2,17,[],(.seq (.region 0 [mC 0 4 (.i 0)] [0,1,4]) (.block 0 (.loop [0,1,4] (c123_1))))⟩
def c125_0:AC :=
 .seq (.region 0 [mV 0 10 0,qQ 1 11 (.mkSlice 1 1 [.int .u8 0] (.t 10) (.t 10)),qQ 2 12 (.build [.nils,.i 0,.i 0,.int .u64 0,.int .u64 0,.bool false] [(0,1,(.t 11)),(5,1,(.c (.bool true)))]),qQ 3 13 (.box 6 (.t 12)),mV 4 2 13,mC 5 3 (.i 0)] [2,3]) (.ret)
def c125_1:AC :=
 .seq (.seq (.region 0 [mV 0 4 0,bC 1 5 .lss 4 (.i 0),mV 2 6 5,gM 3 7 0 6 false,gG 4 8 (.bin .gtr (.t 7) (.c (.i 65536))) 6 false,pC 5 9 6 (.bool true) 8] [0,9]) (.cond (.t 9) (.seq (.region 0 [mC 0 2 (.ptr none),mC 1 3 (.i 2)] [2,3]) (.ret)) (.skip))) (c125_0)
def c125:AFn:=⟨1,14,[.tmp 2,.tmp 3],(.seq (.region 0 [mC 0 2 (.ptr none),mC 1 3 (.i 0)] [0]) (c125_1))⟩
def c126_0:AC :=
 .seq (.region 0 [mV 0 3 0,bC 1 4 .geq 3 (.i 1),mV 2 5 4,gM 3 6 0 5 true,gG 4 7 (.bin .leq (.t 6) (.c (.i 65536))) 5 true,pT 5 8 5 7 (.bool false),mV 6 2 8] [2]) (.ret)
def c126:AFn:=⟨1,9,[.tmp 2],(.seq (.region 0 [mC 0 2 (.bool false)] [0]) (c126_0))⟩
def c127_0:AC :=
 .seq (.seq (.region 0 [lD 0 11 6,lL 1 12 11,lD 2 13 3,bB 3 14 .eql 12 13] [6,7,14]) (.cond (.t 14) (.exit 0) (.skip))) (.region 0 [lD 0 15 6,mV 1 16 7,qQ 2 17 (.bslice 1 1 [.i 0] [(0,(.t 16))]),qQ 3 18 (.append 1 8 (.t 15) (.t 17)),sT 4 1 6 18] [])
def c127_1:AC :=
 .seq (.region 0 [lD 0 19 6,lD 1 20 6,lL 2 21 20,lD 3 22 3,bB 4 23 .eql 21 22,mV 5 24 23,gM 6 25 0 24 true,gG 7 26 (.nilck (.t 25)) 24 true,gF 8 27 288 26 24 true,gL 9 28 27 24 true,gG 10 29 (.lenL (.t 28)) 24 true,gG 11 30 (.bin .lss (.t 29) (.c (.i 1000))) 24 true,pT 12 31 24 30 (.bool false),mV 13 4 19,mV 14 5 31] [4,5]) (.ret)
def c127_2:AC :=
 .scope (.seq (.region 0 [qQ 0 6 (.alloc 1 [.nils])] [0,3,6]) (.seq (.label 0) (.seq (.seq (.region 0 [mV 0 8 0,aA 1 9 64 8] [0,3,6,9]) (.block 0 (.rangeFunc (.t 9) [10] [3,6] (.region 0 [mV 0 7 10] [3,6,7]) (.block 1 (c127_0))))) (c127_1))))
def c127:AFn:=⟨2,32,[.tmp 4,.tmp 5],(.seq (.region 0 [qQ 0 3 (.box 1 (.t 1)),mC 1 4 (.nils),mC 2 5 (.bool false)] [0,3]) (c127_2))⟩
def c128_0:AC :=
 .region 0 [mV 0 28 0,mV 1 29 7,mV 2 30 0,nC 3 31 30,fA 4 32 288 31,lD 5 33 32,lL 6 34 33,mV 7 35 6,qQ 8 36 (.build [.bool false,.i 0,.i 0] [(0,1,(.c (.bool true))),(1,1,(.t 34)),(2,1,(.t 35))]),nC 9 37 28,fA 10 38 0 37,iA 11 39 96 3 38 29,sT 12 3 39 36] [0,1,8,9,10]
def c128_1:AC :=
 .seq (.region 0 [mV 0 15 1,mV 1 16 6,mV 2 17 1,mV 3 18 6,mV 4 19 7,nC 5 20 15,fA 6 21 0 20,iA 7 22 2 7 21 16,fA 8 23 0 22,nC 10 24 17,fA 11 25 0 24,.mk4 9 none (.store 1 (.t 23) (.c (.i 1))) none,iA 12 26 2 7 25 18,fA 13 27 1 26,sT 14 1 27 19] [0,1,6,7,8,9,10]) (c128_0)
def c128_2:AC :=
 .seq (.block 1 (.seq (.region 0 [mV 0 12 10,iS 1 13 1 8 10,lD 2 14 13,mV 3 6 12,mV 4 7 14] [0,1,6,7,8,9,10]) (c128_1))) (.region 0 [bC 0 40 .add 10 (.i 1),mV 1 10 40] [0,1,8,9,10])
def c128_3:AC :=
 .region 0 [mV 0 41 0,mV 1 42 0,nC 2 43 42,fA 3 44 288 43,lD 4 45 44,mV 5 46 1,qQ 6 47 (.bslice 1 1 [.ptr none] [(0,(.t 46))]),qQ 7 48 (.append 1 8 (.t 45) (.t 47)),nC 8 49 41,fA 9 50 288 49,sT 10 1 50 48] []
def c128_4:AC :=
 .seq (.seq (.region 0 [mV 0 8 2,lL 1 9 8,mC 2 10 (.i 0)] [0,1,8,9,10]) (.block 0 (.loop [0,1,8,9,10] (.seq (.region 0 [bB 0 11 .lss 10 9] [0,1,8,9,10,11]) (.seq (.cond (.t 11) (.skip) (.exit 0)) (c128_2)))))) (c128_3)
def c128:AFn:=⟨3,51,[],(c128_4)⟩
def c129_0:AC :=
 .region 0 [mV 0 54 0,nC 1 55 54,fA 2 56 0 55,lD 3 57 56,mV 4 58 1,mV 5 59 2,iS 6 60 20 57 58,fA 7 61 0 60,iA 8 62 2 8 61 59,fA 9 63 7 62,lD 10 64 63,bC 11 65 .add 64 (.int .u64 1),iS 12 66 20 57 58,fA 13 67 0 66,iA 14 68 2 8 67 59,fA 15 69 7 68,sT 16 1 69 65] []
def c129_1:AC :=
 .region 0 [mV 0 24 0,nC 1 25 24,fA 2 26 0 25,lD 3 27 26,mV 4 28 1,mV 5 29 2,iS 6 30 20 27 28,fA 7 31 0 30,iA 8 32 2 8 31 29,fA 9 33 6 32,lD 10 34 33,bC 11 35 .add 34 (.int .u64 1),iS 12 36 20 27 28,fA 13 37 0 36,iA 14 38 2 8 37 29,fA 15 39 6 38,sT 16 1 39 35] [0,1,2,4]
def c129_2:AC :=
 .seq (.region 0 [mV 0 40 4,mV 1 41 40,gM 2 42 0 41 true,gG 3 43 (.nilck (.t 42)) 41 true,gF 4 44 0 43 41 true,gL 5 45 44 41 true,gM 6 46 1 41 true,gM 7 47 2 41 true,gG 8 48 (.ixaS 20 (.t 45) (.t 46)) 41 true,gF 9 49 0 48 41 true,gG 10 50 (.ixaA 2 8 (.t 49) (.t 47)) 41 true,gF 11 51 3 50 41 true,gL 12 52 51 41 true,pT 13 53 41 52 (.bool false)] [0,1,2,53]) (.cond (.t 53) (c129_0) (.skip))
def c129_3:AC :=
 .seq (.seq (.region 0 [mV 0 10 3,mV 1 11 10,gM 2 12 0 11 true,gG 3 13 (.nilck (.t 12)) 11 true,gF 4 14 0 13 11 true,gL 5 15 14 11 true,gM 6 16 1 11 true,gM 7 17 2 11 true,gG 8 18 (.ixaS 20 (.t 15) (.t 16)) 11 true,gF 9 19 0 18 11 true,gG 10 20 (.ixaA 2 8 (.t 19) (.t 17)) 11 true,gF 11 21 2 20 11 true,gL 12 22 21 11 true,pT 13 23 11 22 (.bool false)] [0,1,2,4,23]) (.cond (.t 23) (c129_1) (.skip))) (c129_2)
def c129:AFn:=⟨5,70,[],(c129_3)⟩
def c130_0:AC :=
 .seq (.region 0 [mV 0 5 1,bC 1 6 .geq 5 (.i 0),mV 2 7 6,gM 3 8 1 7 true,gM 4 9 0 7 true,gG 5 10 (.nilck (.t 9)) 7 true,gF 6 11 0 10 7 true,gL 7 12 11 7 true,gG 8 13 (.lenL (.t 12)) 7 true,gG 9 14 (.bin .lss (.t 8) (.t 13)) 7 true,pT 10 15 7 14 (.bool false),mV 11 16 15,gM 12 17 0 16 true,gG 13 18 (.nilck (.t 17)) 16 true,gF 14 19 0 18 16 true,gL 15 20 19 16 true,gM 16 21 1 16 true,gG 17 22 (.ixaS 20 (.t 20) (.t 21)) 16 true,gF 18 23 0 22 16 true,gG 19 24 (.ixaA 2 8 (.t 23) (.c (.i 1))) 16 true,gF 20 25 0 24 16 true,gL 21 26 25 16 true,gG 22 27 (.bin .eql (.t 26) (.c (.i 2))) 16 true,pT 23 28 16 27 (.bool false),mV 24 4 28] [4]) (.ret)
def c130:AFn:=⟨2,29,[.tmp 4],(.seq (.region 0 [mC 0 4 (.bool false)] [0,1]) (c130_0))⟩
def c131_0:AC :=
 .seq (.region 0 [mC 0 2 (.i 0)] [0]) (.seq (.region 0 [mV 0 3 0,mV 1 4 0,aA 2 5 45 4,aB 3 6 117 3 5,lL 4 7 6,mV 5 2 7] [2]) (.ret))
def c131:AFn:=⟨1,8,[.tmp 2],(c131_0)⟩
def c132_0:AC :=
 .seq (.seq (.region 0 [mV 0 3 0,qQ 1 4 (.eq .slice false (.t 3) (.c (.nils)))] [0,4]) (.cond (.t 4) (.seq (.region 0 [mC 0 2 (.nils)] [2]) (.ret)) (.skip))) (.seq (.region 0 [qQ 0 5 (.bslice 1 0 [] []),mV 1 6 0,qQ 2 7 (.append 1 8 (.t 5) (.t 6)),mV 3 2 7] [2]) (.ret))
def c132:AFn:=⟨1,8,[.tmp 2],(.seq (.region 0 [mC 0 2 (.nils)] [0]) (c132_0))⟩
def c133_0:AC :=
 .cond (.t 21) (.region 0 [mV 0 22 0,mV 1 23 1,nC 2 24 22,fA 3 25 32 24,iA 4 26 32 1 25 23,.mk4 5 none (.store 1 (.t 26) (.c (.i 0))) none] []) (.skip)
def c133_1:AC :=
 .seq (.seq (.region 0 [mV 0 14 0,mV 1 15 1,mV 2 16 2,nC 3 17 14,fA 4 18 0 17,iA 5 19 32 1 18 15,sT 6 1 19 16] [0,1,2]) (.seq (.region 0 [mV 0 20 2,qQ 1 21 (.un .not (.t 20))] [0,1,21]) (c133_0))) (.seq (.region 0 [mC 0 6 (.i 0)] [6]) (.ret))
def c133_2:AC :=
 .seq (.seq (.region 0 [mV 0 8 0,mV 1 9 1,aB 2 10 141 8 9,mV 3 7 10] [0,1,2,7]) (.seq (.region 0 [mV 0 11 7,bC 1 12 .neq 11 (.i 0)] [0,1,2,7,12]) (.cond (.t 12) (.seq (.region 0 [mV 0 13 7,mV 1 6 13] [6]) (.ret)) (.skip)))) (c133_1)
def c133:AFn:=⟨3,27,[.tmp 6],(.seq (.region 0 [mC 0 6 (.i 0)] [0,1,2]) (c133_2))⟩
def c134_0:AC :=
 .cond (.t 48) (.region 0 [mV 0 52 2,mV 1 53 3,qQ 2 54 (.bin .sub (.c (.i 1)) (.t 53)),qQ 3 55 (.bslice 1 1 [.int .u8 0] [(0,(.c (.int .u8 1)))]),aC 4 56 62 52 54 55] []) (.skip)
def c134_1:AC :=
 .region 0 [mV 0 41 2,mV 1 42 3,qQ 2 43 (.bin .sub (.c (.i 1)) (.t 42)),mV 3 44 4,aA 4 45 131 44,bC 5 46 .gtr 45 (.i 0),qQ 6 47 (.call 116 [(.t 41),(.t 43),(.c (.bool false)),(.t 46)])] []
def c134_2:AC :=
 .seq (.region 0 [mV 0 35 0,nC 1 36 35,fA 2 37 289 36,lD 3 38 37,aA 4 39 142 38,bC 5 40 .eql 39 (.i 0),mV 6 34 40] [2,3,4,34]) (.cond (.t 34) (c134_1) (.seq (.region 0 [mV 0 49 4,aA 1 50 45 49,bC 2 51 .eql 50 (.i 0),mV 3 48 51] [2,3,48]) (c134_0)))
def c134_3:AC :=
 .seq (.region 0 [mV 0 27 2,mV 1 28 3,nC 2 29 27,fA 3 30 0 29,iA 4 31 2 7 30 28,fA 5 32 2 31,lD 6 33 32,mV 7 4 33] [0,2,3,4]) (.block 0 (c134_2))
def c134_4:AC :=
 .seq (.region 0 [mV 0 11 0,nC 1 12 11,fA 2 13 288 12,lD 3 14 13,mV 4 15 0,nC 5 16 15,fA 6 17 291 16,fA 7 18 1 17,lD 8 19 18,iS 9 20 1 14 19,lD 10 21 20,mV 11 22 0,nC 12 23 22,fA 13 24 291 23,fA 14 25 2 24,lD 15 26 25,mV 16 2 21,mV 17 3 26] [0,2,3]) (c134_3)
def c134_5:AC :=
 .seq (.seq (.region 0 [mV 0 5 0,nC 1 6 5,fA 2 7 291 6,fA 3 8 0 7,lD 4 9 8,qQ 5 10 (.un .not (.t 9))] [0,10]) (.cond (.t 10) (.ret) (.skip))) (c134_4)
def c134:AFn:=⟨1,57,[],(c134_5)⟩
def c135_0:AC :=
 .region 1 [mV 0 61 0,mV 1 62 0,nC 2 63 62,fA 3 64 66 63,lD 4 65 64,mV 5 66 0,nC 6 67 66,fA 7 68 67 67,lD 8 69 68,qQ 9 70 (.bin .sub (.c (.i 1)) (.t 69)),⟨10,(some 71),.bslice 1 1 [.int .u8 0] [(0,(.c (.int .u8 1)))],none,some 0,[]⟩,qQ 11 72 (.call 87 [(.t 61),(.t 65),(.t 70),(.t 71)])] []
def c135_1:AC :=
 .seq (.region 0 [mV 0 31 0,mV 1 32 0,nC 2 33 32,fA 3 34 66 33,lD 4 35 34,mV 5 36 0,nC 6 37 36,fA 7 38 67 37,lD 8 39 38,mV 9 40 3,qQ 10 41 (.call 86 [(.t 31),(.t 35),(.t 39),(.t 40)])] []) (.ret)
def c135_2:AC :=
 .seq (.region 0 [mV 0 13 0,nC 1 14 13,fA 2 15 0 14,lD 3 16 15,mV 4 17 0,nC 5 18 17,fA 6 19 66 18,lD 7 20 19,mV 8 21 0,nC 9 22 21,fA 10 23 67 22,lD 11 24 23,iS 12 25 20 16 20,fA 13 26 0 25,iA 14 27 2 8 26 24,fA 15 28 4 27,lD 16 29 28,lL 17 30 29,mV 18 3 30] [0,3]) (c135_1)
def c135_3:AC :=
 .seq (.region 0 [mV 0 42 0,nC 1 43 42,fA 2 44 0 43,lD 3 45 44,mV 4 46 0,nC 5 47 46,fA 6 48 66 47,lD 7 49 48,mV 8 50 0,nC 9 51 50,fA 10 52 67 51,lD 11 53 52,iS 12 54 20 45 49,fA 13 55 0 54,iA 14 56 2 8 55 53,fA 15 57 4 56,lD 16 58 57,lL 17 59 58,bC 18 60 .eql 59 (.i 0)] [0,60]) (.cond (.t 60) (c135_0) (.skip))
def c135_4:AC :=
 .seq (.region 0 [mV 0 9 0,aA 1 10 143 9,mV 2 2 10] [0,2]) (.seq (.seq (.region 0 [mV 0 11 2,bC 1 12 .eql 11 (.i 0)] [0,12]) (.cond (.t 12) (c135_2) (.skip))) (c135_3))
def c135:AFn:=⟨1,73,[],(.seq (.seq (.region 0 [mV 0 4 0,nC 1 5 4,fA 2 6 66 5,lD 3 7 6,bC 4 8 .lss 7 (.i 0)] [0,8]) (.cond (.t 8) (.ret) (.skip))) (c135_4))⟩
def c136_0:AC :=
 .region 0 [mV 0 18 0,mV 1 19 1,nC 2 20 18,fA 3 21 32 20,iA 4 22 32 1 21 19,lD 5 23 22,mV 6 24 0,mV 7 25 1,nC 8 26 24,fA 9 27 32 26,iA 10 28 32 1 27 25,lD 11 29 28,qQ 12 30 (.bin .sub (.c (.i 2147483647)) (.t 29)),qQ 13 31 (.minI [(.c (.i 1)),(.t 30)]),bB 14 32 .add 23 31,nC 15 33 18,fA 16 34 32 33,iA 17 35 32 1 34 19,sT 18 1 35 32] []
def c136_1:AC :=
 .seq (.seq (.region 0 [mV 0 12 0,mV 1 13 1,nC 2 14 12,fA 3 15 0 14,iA 4 16 32 1 15 13,lD 5 17 16] [0,1,17]) (.cond (.t 17) (c136_0) (.skip))) (.seq (.region 0 [mC 0 4 (.i 0)] [4]) (.ret))
def c136_2:AC :=
 .seq (.seq (.region 0 [mV 0 6 0,mV 1 7 1,aB 2 8 141 6 7,mV 3 5 8] [0,1,5]) (.seq (.region 0 [mV 0 9 5,bC 1 10 .neq 9 (.i 0)] [0,1,5,10]) (.cond (.t 10) (.seq (.region 0 [mV 0 11 5,mV 1 4 11] [4]) (.ret)) (.skip)))) (c136_1)
def c136:AFn:=⟨2,36,[.tmp 4],(.seq (.region 0 [mC 0 4 (.i 0)] [0,1]) (c136_2))⟩
def c137_0:AC :=
 .region 0 [mV 0 20 0,fA 1 21 0 6,lD 2 22 21,nC 3 23 20,fA 4 24 32 23,iA 5 25 32 1 24 22,.mk4 6 none (.store 1 (.t 25) (.c (.i 0))) none] [0,3,14,15,16]
def c137_1:AC :=
 .seq (.block 3 (.seq (.region 0 [iS 0 18 2 14 16,lN 1 19 2 18,qQ 2 6 (.alloc 2 [.i 0,.i 0]),sT 3 2 6 19] [0,3,6,14,15,16]) (c137_0))) (.region 0 [bC 0 26 .add 16 (.i 1),mV 1 16 26] [0,3,14,15,16])
def c137_2:AC :=
 .rangeFunc (.t 8) [9] [3] (.region 0 [qQ 0 4 (.alloc 2 [.i 0,.i 0]),sT 1 2 4 9] [3,4]) (.block 1 (.region 0 [lD 0 10 3,lN 1 11 2 4,qQ 2 12 (.bslice 2 1 [.i 0,.i 0] [(0,(.t 11))]),qQ 3 13 (.append 2 16 (.t 10) (.t 12)),sT 4 1 3 13] []))
def c137_3:AC :=
 .seq (.seq (.region 0 [lD 0 14 3,lL 1 15 14,mC 2 16 (.i 0)] [0,3,14,15,16]) (.block 2 (.loop [0,3,14,15,16] (.seq (.region 0 [bB 0 17 .lss 16 15] [0,3,14,15,16,17]) (.seq (.cond (.t 17) (.skip) (.exit 2)) (c137_1)))))) (.seq (.region 0 [lD 0 27 3,mV 1 2 27] [2]) (.ret))
def c137:AFn:=⟨1,28,[.tmp 2],(.seq (.region 0 [mC 0 2 (.nils)] [0]) (.seq (.region 0 [qQ 0 3 (.alloc 1 [.nils])] [0,3]) (.seq (.seq (.region 0 [mV 0 7 0,aA 1 8 144 7] [0,3,8]) (.block 0 (c137_2))) (c137_3))))⟩
def c138_0:AC :=
 .seq (.region 0 [qQ 0 3 (.box 1 (.t 0)),qQ 1 4 (.box 1 (.t 1)),qQ 2 5 (.box 1 (.t 2)),mC 3 6 (.nilfn)] [3,4,5]) (.seq (.region 0 [qQ 0 7 (.mkClo 145 [(.t 5),(.t 4),(.t 3)]),mV 1 6 7] [6]) (.ret))
def c138:AFn:=⟨3,8,[.tmp 6],(c138_0)⟩
def c139_0:AC :=
 .block 0 (.rangeFunc (.t 19) [20] [5] (.region 0 [mV 0 6 20] [5,6]) (.block 1 (.region 0 [lD 0 21 5,mV 1 22 6,qQ 2 23 (.append 1 1 (.t 21) (.t 22)),sT 3 1 5 23] [])))
def c139_1:AC :=
 .seq (.region 0 [mV 0 13 0,mV 1 14 0,nC 2 15 14,fA 3 16 1 15,lD 4 17 16,mV 5 18 1,aC 6 19 138 13 17 18] [5,19]) (c139_0)
def c139_2:AC :=
 .seq (.seq (.region 0 [mV 0 7 1,mV 1 8 0,aA 2 9 45 8,qQ 3 10 (.minI [(.t 7),(.t 9)]),mV 4 1 10] [0,1,5]) (.seq (.region 0 [mV 0 11 1,bC 1 12 .gtr 11 (.i 0)] [0,1,5,12]) (.cond (.t 12) (c139_1) (.skip)))) (.seq (.region 0 [lD 0 24 5,mV 1 4 24] [4]) (.ret))
def c139:AFn:=⟨2,25,[.tmp 4],(.seq (.region 0 [mC 0 4 (.nils)] [0,1]) (.seq (.region 0 [qQ 0 5 (.alloc 1 [.nils])] [0,1,5]) (c139_2)))⟩
def c140:AFn:=⟨1,5,[.tmp 2],(.seq (.region 0 [mC 0 2 (.nils)] [0]) (.seq (.region 0 [mV 0 3 0,qQ 1 4 (.call 146 [(.c (.nils)),(.t 3)]),mV 2 2 4] [2]) (.ret)))⟩
def c141_0:AC :=
 .cond (.t 5) (.seq (.region 0 [mC 0 4 (.i 1)] [4]) (.ret)) (.seq (.region 0 [mV 0 9 1,aA 1 10 147 9,qQ 2 11 (.un .not (.t 10)),mV 3 8 11] [8]) (.cond (.t 8) (.seq (.region 0 [mC 0 4 (.i 100)] [4]) (.ret)) (.skip)))
def c141_1:AC :=
 .seq (.region 0 [mC 0 4 (.i 0)] [0,1]) (.seq (.block 0 (.seq (.region 0 [mV 0 6 0,qQ 1 7 (.eq .ptr false (.t 6) (.c (.ptr none))),mV 2 5 7] [1,5]) (c141_0))) (.seq (.region 0 [mC 0 4 (.i 0)] [4]) (.ret)))
def c141:AFn:=⟨2,12,[.tmp 4],(c141_1)⟩
def c142_0:AC :=
 .rangeFunc (.t 6) [7] [3] (.region 0 [qQ 0 4 (.alloc 2 [.i 0,.i 0]),sT 1 2 4 7] [3,4]) (.block 1 (.region 0 [lD 0 8 3,fA 1 9 1 4,lD 2 10 9,bB 3 11 .add 8 10,sT 4 1 3 11] []))
def c142_1:AC :=
 .seq (.region 0 [qQ 0 3 (.alloc 1 [.i 0]),.mk4 1 none (.store 1 (.t 3) (.c (.i 0))) none] [0,3]) (.seq (.seq (.region 0 [mV 0 5 0,aA 1 6 144 5] [3,6]) (.block 0 (c142_0))) (.seq (.region 0 [lD 0 12 3,mV 1 2 12] [2]) (.ret)))
def c142:AFn:=⟨1,13,[.tmp 2],(.seq (.region 0 [mC 0 2 (.i 0)] [0]) (c142_1))⟩
def c143_0:AC :=
 .region 0 [mV 0 9 3,mV 1 10 0,mV 2 11 4,nC 3 12 10,fA 4 13 34 12,iA 5 14 32 1 13 11,lD 6 15 14,bB 7 16 .add 9 15,mV 8 3 16] [0,3,4]
def c143_1:AC :=
 .seq (.seq (.region 0 [mV 0 5 4,bC 1 6 .leq 5 (.i 31)] [0,3,4,6]) (.cond (.t 6) (.skip) (.exit 0))) (.seq (.block 1 (c143_0)) (.region 0 [mV 0 7 4,bC 1 8 .add 7 (.i 1),mV 2 4 8] [0,3,4]))
def c143_2:AC :=
 .seq (.region 0 [mC 0 2 (.i 0)] [0]) (.seq (.region 0 [mC 0 3 (.i 0)] [0,3]) (.seq (.seq (.region 0 [mC 0 4 (.i 1)] [0,3,4]) (.block 0 (.loop [0,3,4] (c143_1)))) (.seq (.region 0 [mV 0 17 3,mV 1 2 17] [2]) (.ret))))
def c143:AFn:=⟨1,18,[.tmp 2],(c143_2)⟩
def c144:AFn:=⟨1,4,[.tmp 2],(.seq (.region 0 [qQ 0 1 (.box 1 (.t 0)),mC 1 2 (.nilfn)] [1]) (.seq (.region 0 [qQ 0 3 (.mkClo 148 [(.t 1)]),mV 1 2 3] [2]) (.ret)))⟩
def c145_0:AC :=
 .seq (.region 0 [lD 0 35 2,mV 1 36 6,lL 2 37 36,bB 3 38 .add 35 37,sT 4 1 2 38] [0,1,2,3,6]) (.region 0 [lD 0 39 1,mV 1 40 6,lL 2 41 40,bB 3 42 .sub 39 41,sT 4 1 1 42] [0,1,2,3])
def c145_1:AC :=
 .seq (.region 0 [lD 0 16 3,nC 1 17 16,fA 2 18 0 17,lD 3 19 18,mV 4 20 5,mV 5 21 5,lD 6 22 1,bB 7 23 .add 21 22,lD 8 24 3,nC 9 25 24,fA 10 26 0 25,lD 11 27 26,lL 12 28 27,qQ 13 29 (.minI [(.t 23),(.t 28)]),qQ 14 30 (.slice 1 (.t 19) (some (.t 20)) (some (.t 29)) none),mV 15 6 30] [0,1,2,3,6]) (.seq (.seq (.region 0 [mV 0 31 0,mV 1 32 6,qQ 2 33 (.callv (.t 31) [(.t 32)]),qQ 3 34 (.un .not (.t 33))] [0,1,2,3,6,34]) (.cond (.t 34) (.exit 0) (.skip))) (c145_0))
def c145_2:AC :=
 .seq (.region 0 [lD 0 9 2,lD 1 10 3,nC 2 11 10,fA 3 12 0 11,lD 4 13 12,lL 5 14 13,bB 6 15 .rem 9 14,mV 7 5 15] [0,1,2,3,5]) (c145_1)
def c145:AFn:=⟨4,43,[],(.scope (.seq (.label 0) (.block 0 (.loop [0,1,2,3] (.seq (.seq (.region 0 [lD 0 7 1,bC 1 8 .gtr 7 (.i 0)] [0,1,2,3,8]) (.cond (.t 8) (.skip) (.exit 0))) (.block 1 (c145_2)))))))⟩
def c146_0:AC :=
 .rangeFunc (.t 6) [7] [2] (.region 0 [mV 0 5 7] [2,5]) (.block 1 (.region 0 [lD 0 8 2,mV 1 9 5,qQ 2 10 (.bslice 1 1 [.i 0] [(0,(.t 9))]),qQ 3 11 (.append 1 8 (.t 8) (.t 10)),sT 4 1 2 11] []))
def c146_1:AC :=
 .seq (.region 0 [qQ 0 2 (.box 1 (.t 0)),mC 1 4 (.nils)] [1,2]) (.seq (.seq (.region 0 [mV 0 6 1] [2,6]) (.block 0 (c146_0))) (.seq (.region 0 [lD 0 12 2,mV 1 4 12] [4]) (.ret)))
def c146:AFn:=⟨2,13,[.tmp 4],(c146_1)⟩
def c147_0:AC :=
 .seq (.region 0 [mV 0 3 0,bC 1 4 .geq 3 (.i 1),mV 2 5 4,gM 3 6 0 5 true,gG 4 7 (.bin .leq (.t 6) (.c (.i 31))) 5 true,pT 5 8 5 7 (.bool false),mV 6 2 8] [2]) (.ret)
def c147:AFn:=⟨1,9,[.tmp 2],(.seq (.region 0 [mC 0 2 (.bool false)] [0]) (c147_0))⟩
def c148_0:AC :=
 .seq (.region 0 [mV 0 13 0,mV 1 14 3,mV 2 15 4,qQ 3 16 (.build [.i 0,.i 0] [(0,1,(.t 14)),(1,1,(.t 15))]),qQ 4 17 (.callv (.t 13) [(.t 16)]),qQ 5 18 (.un .not (.t 17))] [0,1,5,18]) (.cond (.t 18) (.ret) (.skip))
def c148_1:AC :=
 .seq (.region 0 [lD 0 8 1,mV 1 9 3,aB 2 10 149 8 9,mV 3 4 10] [0,1,3,4,5]) (.seq (.seq (.region 0 [mV 0 11 4,bC 1 12 .eql 11 (.i 0)] [0,1,3,4,5,12]) (.cond (.t 12) (.exit 1) (.skip))) (c148_0))
def c148_2:AC :=
 .seq (.region 0 [bC 0 6 .lss 5 (.i 32)] [0,1,5,6]) (.seq (.cond (.t 6) (.skip) (.exit 0)) (.seq (.block 1 (.seq (.region 0 [mV 0 7 5,mV 1 3 7] [0,1,3,5]) (c148_1))) (.region 0 [bC 0 19 .add 5 (.i 1),mV 1 5 19] [0,1,5])))
def c148:AFn:=⟨2,20,[],(.scope (.seq (.label 0) (.seq (.region 0 [mC 0 5 (.i 0)] [0,1,5]) (.block 0 (.loop [0,1,5] (c148_2))))))⟩
def c149_0:AC :=
 .seq (.region 0 [mV 0 9 0,mV 1 10 1,nC 2 11 9,fA 3 12 32 11,iA 4 13 32 1 12 10,lD 5 14 13,mV 6 4 14] [4]) (.ret)
def c149_1:AC :=
 .seq (.seq (.region 0 [mV 0 5 0,mV 1 6 1,aB 2 7 141 5 6,bC 3 8 .neq 7 (.i 0)] [0,1,8]) (.cond (.t 8) (.seq (.region 0 [mC 0 4 (.i 0)] [4]) (.ret)) (.skip))) (c149_0)
def c149:AFn:=⟨2,15,[.tmp 4],(.seq (.region 0 [mC 0 4 (.i 0)] [0,1]) (c149_1))⟩
def prog:Prog := { fns:=[(3,c3),(8,c8),(9,c9),(10,c10),(11,c11),(12,c12),(13,c13),(14,c14),(15,c15),(16,c16),(17,c17),(18,c18),(19,c19),(20,c20),(21,c21),(22,c22),(23,c23),(28,c28),(29,c29),(31,c31),(34,c34),(35,c35),(36,c36),(37,c37),(38,c38),(39,c39),(40,c40),(41,c41),(42,c42),(43,c43),(44,c44),(45,c45),(46,c46),(47,c47),(48,c48),(49,c49),(50,c50),(51,c51),(52,c52),(53,c53),(54,c54),(55,c55),(56,c56),(57,c57),(58,c58),(59,c59),(60,c60),(61,c61),(62,c62),(63,c63),(64,c64),(65,c65),(66,c66),(67,c67),(68,c68),(69,c69),(72,c72),(73,c73),(74,c74),(75,c75),(76,c76),(79,c79),(80,c80),(81,c81),(82,c82),(83,c83),(84,c84),(85,c85),(86,c86),(87,c87),(88,c88),(89,c89),(90,c90),(91,c91),(92,c92),(93,c93),(94,c94),(95,c95),(96,c96),(97,c97),(98,c98),(99,c99),(100,c100),(101,c101),(102,c102),(103,c103),(104,c104),(105,c105),(106,c106),(107,c107),(108,c108),(109,c109),(110,c110),(111,c111),(112,c112),(113,c113),(114,c114),(115,c115),(116,c116),(117,c117),(118,c118),(119,c119),(120,c120),(121,c121),(122,c122),(123,c123),(125,c125),(126,c126),(127,c127),(128,c128),(129,c129),(130,c130),(131,c131),(132,c132),(133,c133),(134,c134),(135,c135),(136,c136),(137,c137),(138,c138),(139,c139),(140,c140),(141,c141),(142,c142),(143,c143),(144,c144),(145,c145),(146,c146),(147,c147),(148,c148),(149,c149)],prims:=[] }
def cx:Cx:=⟨[(3,⟨.int .i64,1,8,(some (.i 0)),false⟩),(4,⟨.bool,1,1,(some (.bool false)),false⟩),(5,⟨.int .u8,1,1,(some (.int .u8 0)),false⟩),(9,⟨.str,1,16,(some (.str [])),false⟩),(22,⟨.slice 41,1,24,(some (.nils)),false⟩),(27,⟨.int .u64,1,8,(some (.int .u64 0)),false⟩),(29,⟨.struct [(0,4),(1,4),(2,4),(3,4),(4,4),(5,27),(6,27)],7,24,(some (.agg [.bool false,.bool false,.bool false,.bool false,.bool false,.int .u64 0,.int .u64 0])),false⟩),(30,⟨.array 96 29,672,2304,(some (.agg ((List.replicate 96 ([.bool false,.bool false,.bool false,.bool false,.bool false,.int .u64 0,.int .u64 0]:List V)).flatten))),false⟩),(31,⟨.slice 3,1,24,(some (.nils)),false⟩),(32,⟨.ptr 92,1,8,(some (.ptr none)),false⟩),(33,⟨.ptr 111,1,8,(some (.ptr none)),false⟩),(35,⟨.struct [(0,32),(1,33)],2,16,(some (.agg [.ptr none,.ptr none])),false⟩),(39,⟨.slice 5,1,24,(some (.nils)),false⟩),(41,⟨.struct [(0,3),(1,3),(2,3),(3,27),(4,39)],5,56,(some (.agg [.i 0,.i 0,.i 0,.int .u64 0,.nils])),false⟩),(42,⟨.int .i64,1,8,(some (.i 0)),false⟩),(50,⟨.slice 80,1,24,(some (.nils)),false⟩),(51,⟨.slice 29,1,24,(some (.nils)),false⟩),(62,⟨.int .u32,1,4,(some (.int .u32 0)),false⟩),(64,⟨.array 2 62,2,8,(some (.agg [.int .u32 0,.int .u32 0])),false⟩),(80,⟨.struct [(0,3),(1,3)],2,16,(some (.agg [.i 0,.i 0])),false⟩),(87,⟨.struct [(0,4),(1,3),(2,3)],3,24,(some (.agg [.bool false,.i 0,.i 0])),false⟩),(88,⟨.array 96 87,288,2304,(some (.agg ((List.replicate 96 ([.bool false,.i 0,.i 0]:List V)).flatten))),false⟩),(89,⟨.slice 93,1,24,(some (.nils)),false⟩),(90,⟨.ptr 172,1,8,(some (.ptr none)),false⟩),(92,⟨.struct [(0,88),(288,89),(289,90),(290,27),(291,87)],294,2368,(some (.agg ((List.replicate 96 ([.bool false,.i 0,.i 0]:List V)).flatten++[.nils,.ptr none,.int .u64 0,.bool false,.i 0,.i 0]))),false⟩),(93,⟨.ptr 101,1,8,(some (.ptr none)),false⟩),(96,⟨.ptr 140,1,8,(some (.ptr none)),false⟩),(98,⟨.struct [(0,3),(1,3),(2,96),(3,4),(4,4),(5,27),(6,27)],7,48,(some (.agg [.i 0,.i 0,.ptr none,.bool false,.bool false,.int .u64 0,.int .u64 0])),false⟩),(99,⟨.array 2 98,14,96,(some (.agg [.i 0,.i 0,.ptr none,.bool false,.bool false,.int .u64 0,.int .u64 0,.i 0,.i 0,.ptr none,.bool false,.bool false,.int .u64 0,.int .u64 0])),false⟩),(101,⟨.struct [(0,99),(14,4),(15,3),(16,31)],17,136,(some (.agg [.i 0,.i 0,.ptr none,.bool false,.bool false,.int .u64 0,.int .u64 0,.i 0,.i 0,.ptr none,.bool false,.bool false,.int .u64 0,.int .u64 0,.bool false,.i 0,.nils])),false⟩),(107,⟨.slice 145,1,24,(some (.nils)),false⟩),(108,⟨.array 32 4,32,32,(some (.agg (List.replicate 32 (.bool false:V)))),false⟩),(109,⟨.array 32 3,32,256,(some (.agg (List.replicate 32 (.i 0:V)))),false⟩),(111,⟨.struct [(0,107),(1,27),(2,108),(34,109),(66,3),(67,3)],68,336,(some (.agg ([.nils,.int .u64 0]++List.replicate 32 (.bool false:V)++List.replicate 34 (.i 0:V)))),false⟩),(140,⟨.struct [(0,39),(1,3),(2,3),(3,27),(4,27),(5,4)],6,64,(some (.agg [.nils,.i 0,.i 0,.int .u64 0,.int .u64 0,.bool false])),false⟩),(142,⟨.struct [(0,3),(1,3),(2,4),(3,4),(4,39),(5,4),(6,27),(7,27)],8,72,(some (.agg [.i 0,.i 0,.bool false,.bool false,.nils,.bool false,.int .u64 0,.int .u64 0])),false⟩),(143,⟨.array 2 142,16,144,(some (.agg [.i 0,.i 0,.bool false,.bool false,.nils,.bool false,.int .u64 0,.int .u64 0,.i 0,.i 0,.bool false,.bool false,.nils,.bool false,.int .u64 0,.int .u64 0])),false⟩),(145,⟨.struct [(0,143),(16,3),(17,4),(18,3),(19,31)],20,192,(some (.agg [.i 0,.i 0,.bool false,.bool false,.nils,.bool false,.int .u64 0,.int .u64 0,.i 0,.i 0,.bool false,.bool false,.nils,.bool false,.int .u64 0,.int .u64 0,.i 0,.bool false,.i 0,.nils])),false⟩),(158,⟨.slice 161,1,24,(some (.nils)),false⟩),(161,⟨.struct [(0,3),(1,3)],2,16,(some (.agg [.i 0,.i 0])),true⟩),(172,⟨.struct [(0,108),(32,109)],64,288,(some (.agg (List.replicate 32 (.bool false:V)++List.replicate 32 (.i 0:V)))),false⟩)],[]⟩
namespace F
abbrev jbK:Nat:=3
abbrev jbQ:Nat:=8
abbrev jdS:Nat:=9
abbrev jcv:Nat:=10
abbrev jdT:Nat:=11
abbrev jg7:Nat:=12
abbrev jdg:Nat:=13
abbrev jcZ:Nat:=14
abbrev jb2:Nat:=15
abbrev jaL:Nat:=16
abbrev jaV:Nat:=17
abbrev jcK:Nat:=18
abbrev jdR:Nat:=19
abbrev jdQ:Nat:=20
abbrev pol_Poll:Nat:=21
abbrev jj2:Nat:=23
abbrev jf6:Nat:=28
abbrev jhf:Nat:=29
abbrev jjQ:Nat:=31
abbrev jiG:Nat:=34
abbrev jdd:Nat:=35
abbrev pol_Wants:Nat:=36
abbrev pol_Flags:Nat:=37
abbrev jji:Nat:=38
abbrev world_New:Nat:=39
abbrev jdh:Nat:=40
abbrev jbx:Nat:=41
abbrev jeE:Nat:=42
abbrev jdE:Nat:=43
abbrev jb4:Nat:=44
abbrev jfb:Nat:=45
abbrev jfx:Nat:=46
abbrev jh3:Nat:=47
abbrev jaT:Nat:=48
abbrev jdF:Nat:=49
abbrev jdG:Nat:=50
abbrev jcJ:Nat:=51
abbrev jay:Nat:=52
abbrev ja5:Nat:=53
abbrev jaZ:Nat:=54
abbrev jbp:Nat:=55
abbrev jbd:Nat:=56
abbrev jb5:Nat:=57
abbrev jbo:Nat:=58
abbrev jci:Nat:=59
abbrev jbg:Nat:=60
abbrev jag:Nat:=61
abbrev jhs:Nat:=62
abbrev jg5:Nat:=63
abbrev jgd:Nat:=64
abbrev jaG:Nat:=67
abbrev pol_may:Nat:=68
abbrev pol_told:Nat:=69
abbrev jhG:Nat:=72
abbrev sel_asked:Nat:=73
abbrev sel_is:Nat:=74
abbrev jfj:Nat:=75
abbrev jfM:Nat:=76
abbrev jml:Nat:=79
abbrev sigs_New:Nat:=80
abbrev jfy:Nat:=81
abbrev jas:Nat:=82
abbrev jch:Nat:=83
abbrev jh1:Nat:=84
abbrev jbl:Nat:=85
abbrev jbP:Nat:=86
abbrev jbm:Nat:=87
abbrev jg6:Nat:=88
abbrev jcH:Nat:=89
abbrev jdC:Nat:=90
abbrev jbD:Nat:=91
abbrev jbv:Nat:=92
abbrev jbr:Nat:=93
abbrev jbn:Nat:=94
abbrev jbL:Nat:=95
abbrev jaR:Nat:=96
abbrev jbB:Nat:=97
abbrev jaN:Nat:=98
abbrev jbF:Nat:=99
abbrev jbe:Nat:=100
abbrev jb1:Nat:=101
abbrev jaX:Nat:=102
abbrev jgf:Nat:=103
abbrev jbJ:Nat:=104
abbrev jeN:Nat:=105
abbrev jaY:Nat:=106
abbrev jfz:Nat:=107
abbrev jbf:Nat:=108
abbrev je9:Nat:=109
abbrev jaW:Nat:=110
abbrev jcI:Nat:=111
abbrev jaM:Nat:=112
abbrev jge:Nat:=113
abbrev jbI:Nat:=114
abbrev jit:Nat:=115
abbrev jdM:Nat:=116
abbrev jh2:Nat:=117
abbrev jbX:Nat:=118
abbrev jen:Nat:=119
abbrev pol_is:Nat:=120
abbrev jeC:Nat:=121
abbrev jfk:Nat:=122
abbrev jb0:Nat:=123
abbrev jlg:Nat:=125
abbrev jht:Nat:=126
abbrev jc5:Nat:=127
abbrev jdD:Nat:=128
abbrev ja4:Nat:=129
abbrev jbc:Nat:=130
abbrev jcb:Nat:=131
abbrev je2:Nat:=132
abbrev jgi:Nat:=133
abbrev jc6:Nat:=134
abbrev jb7:Nat:=135
abbrev jgD:Nat:=136
abbrev jhz:Nat:=137
abbrev jgm:Nat:=138
abbrev jh4:Nat:=139
abbrev jeX:Nat:=140
abbrev jih:Nat:=141
abbrev jf4:Nat:=142
abbrev jcy:Nat:=143
abbrev jgh:Nat:=144
abbrev jcP:Nat:=145
abbrev jdk:Nat:=146
abbrev sigs_is:Nat:=147
abbrev jcO:Nat:=148
abbrev jgE:Nat:=149
end F
end Am.Sigs
