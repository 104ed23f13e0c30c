/- The code of roundhouselaw11.WorldNames and of all that they reach, as the abstract machine takes it: printed by a program. -/
import Derived.Test.YthfnnapdaifngaaDoorMatch
set_option maxRecDepth 100000
namespace Am.Sigs
open Am Go
def c3_0 : AC :=
  .seq (.region 0 [.mk4 0 (some 366) (.mv (.c (.bool true))) none,
    .mk4 1 (some 367) (.call 28 []) (some (366, true)),
    .mk4 2 (some 368) (.pick (.t 366) (.t 367) (.c (.bool false))) none,
    .mk4 3 (some 369) (.mv (.t 368)) none,
    .mk4 4 (some 370) (.mv (.t 20)) (some (369, true)),
    .mk4 5 (some 371) (.pick (.t 369) (.t 370) (.c (.bool false))) none,
    .mk4 6 (some 372) (.mv (.t 371)) none,
    .mk4 7 (some 373) (.mv (.t 40)) (some (372, true)),
    .mk4 8 (some 374) (.pick (.t 372) (.t 373) (.c (.bool false))) none,
    .mk4 9 (some 375) (.mv (.t 374)) none,
    .mk4 10 (some 376) (.mv (.t 53)) (some (375, true)),
    .mk4 11 (some 377) (.pick (.t 375) (.t 376) (.c (.bool false))) none,
    .mk4 12 (some 0) (.mv (.t 377)) none] [0]) (.ret)
def c3_1 : AC :=
  .seq (.region 0 [.mk4 0 (some 306) (.mv (.t 45)) none,
    .mk4 1 (some 307) (.bin .eql (.t 306) (.c (.i 1))) none,
    .mk4 2 (some 308) (.mv (.t 307)) none,
    .mk4 3 (some 309) (.mv (.t 48)) (some (308, true)),
    .mk4 4 (some 310) (.bin .eql (.t 309) (.c (.i 1))) (some (308, true)),
    .mk4 5 (some 311) (.pick (.t 308) (.t 310) (.c (.bool false))) none,
    .mk4 6 (some 312) (.mv (.t 311)) none,
    .mk4 7 (some 313) (.mv (.t 50)) (some (312, true)),
    .mk4 8 (some 314) (.bin .eql (.t 313) (.c (.i 1))) (some (312, true)),
    .mk4 9 (some 315) (.pick (.t 312) (.t 314) (.c (.bool false))) none,
    .mk4 10 (some 316) (.mv (.t 315)) none,
    .mk4 11 (some 317) (.mv (.t 52)) (some (316, true)),
    .mk4 12 (some 318) (.bin .eql (.t 317) (.c (.i 1))) (some (316, true)),
    .mk4 13 (some 319) (.pick (.t 316) (.t 318) (.c (.bool false))) none,
    .mk4 14 (some 320) (.mv (.t 319)) none,
    .mk4 15 (some 321) (.mv (.t 41)) (some (320, true)),
    .mk4 16 (some 322) (.call 23 [(.t 321), (.c (.i 0))]) (some (320, true)),
    .mk4 17 (some 323) (.bin .eql (.t 322) (.c (.i 1))) (some (320, true)),
    .mk4 18 (some 324) (.pick (.t 320) (.t 323) (.c (.bool false))) none,
    .mk4 19 (some 325) (.mv (.t 324)) none,
    .mk4 20 (some 326) (.call 19 [(.t 42), (.c (.i 1))]) (some (325, true)),
    .mk4 21 (some 327) (.bin .eql (.t 326) (.c (.i 1))) (some (325, true)),
    .mk4 22 (some 328) (.pick (.t 325) (.t 327) (.c (.bool false))) none,
    .mk4 23 (some 329) (.mv (.t 328)) none,
    .mk4 24 (some 330) (.mv (.t 41)) (some (329, true)),
    .mk4 25 (some 331) (.call 17 [(.t 330), (.c (.i 0)), (.c (.i 1))]) (some (329, true)),
    .mk4 26 (some 332) (.bin .eql (.t 331) (.c (.i 1))) (some (329, true)),
    .mk4 27 (some 333) (.pick (.t 329) (.t 332) (.c (.bool false))) none,
    .mk4 28 (some 334) (.mv (.t 333)) none,
    .mk4 29 (some 335) (.mv (.t 41)) (some (334, true)),
    .mk4 30 (some 336) (.call 24 [(.t 335), (.c (.i 0))]) (some (334, true)),
    .mk4 31 (some 337) (.bin .eql (.t 336) (.c (.i 1))) (some (334, true)),
    .mk4 32 (some 338) (.pick (.t 334) (.t 337) (.c (.bool false))) none,
    .mk4 33 (some 339) (.mv (.t 338)) none,
    .mk4 34 (some 340) (.call 25 [(.t 42)]) (some (339, true)),
    .mk4 35 (some 341) (.bin .eql (.t 340) (.c (.int .u64 0))) (some (339, true)),
    .mk4 36 (some 342) (.pick (.t 339) (.t 341) (.c (.bool false))) none,
    .mk4 37 (some 343) (.mv (.t 342)) none,
    .mk4 38 (some 344) (.mv (.t 41)) (some (343, true)),
    .mk4 39 (some 345) (.call 26 [(.t 344)]) (some (343, true)),
    .mk4 40 (some 346) (.lenL (.t 345)) (some (343, true)),
    .mk4 41 (some 347) (.bin .eql (.t 346) (.c (.i 0))) (some (343, true)),
    .mk4 42 (some 348) (.pick (.t 343) (.t 347) (.c (.bool false))) none,
    .mk4 43 (some 349) (.mv (.t 348)) none,
    .mk4 44 (some 350) (.mv (.t 41)) (some (349, true)),
    .mk4 45 (some 351) (.call 27 [(.t 350)]) (some (349, true)),
    .mk4 46 (some 352) (.lenL (.t 351)) (some (349, true)),
    .mk4 47 (some 353) (.bin .eql (.t 352) (.c (.i 0))) (some (349, true)),
    .mk4 48 (some 354) (.pick (.t 349) (.t 353) (.c (.bool false))) none,
    .mk4 49 (some 355) (.mv (.t 354)) none,
    .mk4 50 (some 356) (.call 20 [(.t 42)]) (some (355, true)),
    .mk4 51 (some 357) (.lenL (.t 356)) (some (355, true)),
    .mk4 52 (some 358) (.bin .eql (.t 357) (.c (.i 0))) (some (355, true)),
    .mk4 53 (some 359) (.pick (.t 355) (.t 358) (.c (.bool false))) none,
    .mk4 54 (some 360) (.mv (.t 359)) none,
    .mk4 55 (some 361) (.mv (.t 41)) (some (360, true)),
    .mk4 56 (some 362) (.call 11 [(.t 361), (.c (.i 0))]) (some (360, true)),
    .mk4 57 (some 363) (.build [.bool false, .bool false, .bool false, .bool false, .bool false, .int .u64 0, .int .u64 0] []) (some (360, true)),
    .mk4 58 (some 364) (.eq (.agg [.bool, .bool, .bool, .bool, .bool, .int .u64, .int .u64]) false (.t 362) (.t 363)) (some (360, true)),
    .mk4 59 (some 365) (.pick (.t 360) (.t 364) (.c (.bool false))) none,
    .mk4 60 (some 53) (.mv (.t 365)) none] [20, 40, 53]) (c3_0)
def c3_2 : AC :=
  .seq (.region 0 [.mk4 0 (some 302) (.call 14 [(.t 42), (.c (.i 0)), (.c (.i 0))]) none,
    .mk4 1 (some 301) (.mv (.t 302)) none,
    .mk4 2 (some 303) (.extract (.t 301) 0) none,
    .mk4 3 (some 304) (.extract (.t 301) 1) none,
    .mk4 4 (some 51) (.mv (.t 303)) none,
    .mk4 5 (some 52) (.mv (.t 304)) none] [20, 40, 41, 42, 45, 48, 50, 52]) (.seq (.region 0 [.mk4 0 (some 305) (.call 22 [(.t 42), (.c (.int .u64 9))]) none] [20, 40, 41, 42, 45, 48, 50, 52]) (c3_1))
def c3_3 : AC :=
  .seq (.region 0 [.mk4 0 (some 297) (.mv (.t 41)) none,
    .mk4 1 (some 298) (.call 6 [(.t 297), (.c (.i 0)), (.c (.nils))]) none,
    .mk4 2 (some 296) (.mv (.t 298)) none,
    .mk4 3 (some 299) (.extract (.t 296) 0) none,
    .mk4 4 (some 300) (.extract (.t 296) 1) none,
    .mk4 5 (some 49) (.mv (.t 299)) none,
    .mk4 6 (some 50) (.mv (.t 300)) none] [20, 40, 41, 42, 45, 48, 50]) (c3_2)
def c3_4 : AC :=
  .seq (.region 0 [.mk4 0 (some 292) (.call 13 [(.t 42), (.c (.i 99))]) none,
    .mk4 1 (some 291) (.mv (.t 292)) none,
    .mk4 2 (some 293) (.extract (.t 291) 0) none,
    .mk4 3 (some 294) (.extract (.t 291) 1) none,
    .mk4 4 (some 295) (.extract (.t 291) 2) none,
    .mk4 5 (some 46) (.mv (.t 293)) none,
    .mk4 6 (some 47) (.mv (.t 294)) none,
    .mk4 7 (some 48) (.mv (.t 295)) none] [20, 40, 41, 42, 45, 48]) (c3_3)
def c3_5 : AC :=
  .seq (.region 0 [.mk4 0 (some 286) (.mv (.t 41)) none,
    .mk4 1 (some 287) (.call 21 [(.t 286), (.c (.i 1))]) none,
    .mk4 2 (some 285) (.mv (.t 287)) none,
    .mk4 3 (some 288) (.extract (.t 285) 0) none,
    .mk4 4 (some 289) (.extract (.t 285) 1) none,
    .mk4 5 (some 290) (.extract (.t 285) 2) none,
    .mk4 6 (some 43) (.mv (.t 288)) none,
    .mk4 7 (some 44) (.mv (.t 289)) none,
    .mk4 8 (some 45) (.mv (.t 290)) none] [20, 40, 41, 42, 45]) (c3_4)
def c3_6 : AC :=
  .seq (.region 0 [.mk4 0 (some 202) (.mv (.t 21)) none,
    .mk4 1 (some 203) (.bin .eql (.t 202) (.c (.i 1))) none,
    .mk4 2 (some 204) (.mv (.t 203)) none,
    .mk4 3 (some 205) (.mv (.t 22)) (some (204, true)),
    .mk4 4 (some 206) (.bin .eql (.t 205) (.c (.i 1))) (some (204, true)),
    .mk4 5 (some 207) (.pick (.t 204) (.t 206) (.c (.bool false))) none,
    .mk4 6 (some 208) (.mv (.t 207)) none,
    .mk4 7 (some 209) (.mv (.t 23)) (some (208, true)),
    .mk4 8 (some 210) (.bin .eql (.t 209) (.c (.i 0))) (some (208, true)),
    .mk4 9 (some 211) (.pick (.t 208) (.t 210) (.c (.bool false))) none,
    .mk4 10 (some 212) (.mv (.t 211)) none,
    .mk4 11 (some 213) (.mv (.t 24)) (some (212, true)),
    .mk4 12 (some 214) (.bin .eql (.t 213) (.c (.i 2))) (some (212, true)),
    .mk4 13 (some 215) (.pick (.t 212) (.t 214) (.c (.bool false))) none,
    .mk4 14 (some 216) (.mv (.t 215)) none,
    .mk4 15 (some 217) (.mv (.t 25)) (some (216, true)),
    .mk4 16 (some 218) (.bin .eql (.t 217) (.c (.i 0))) (some (216, true)),
    .mk4 17 (some 219) (.pick (.t 216) (.t 218) (.c (.bool false))) none,
    .mk4 18 (some 220) (.mv (.t 219)) none,
    .mk4 19 (some 221) (.mv (.t 27)) (some (220, true)),
    .mk4 20 (some 222) (.bin .eql (.t 221) (.c (.i 113))) (some (220, true)),
    .mk4 21 (some 223) (.pick (.t 220) (.t 222) (.c (.bool false))) none,
    .mk4 22 (some 224) (.mv (.t 223)) none,
    .mk4 23 (some 225) (.mv (.t 28)) (some (224, true)),
    .mk4 24 (some 226) (.bin .eql (.t 225) (.c (.i 2))) (some (224, true)),
    .mk4 25 (some 227) (.pick (.t 224) (.t 226) (.c (.bool false))) none,
    .mk4 26 (some 228) (.mv (.t 227)) none,
    .mk4 27 (some 229) (.mv (.t 29)) (some (228, true)),
    .mk4 28 (some 230) (.bin .eql (.t 229) (.c (.i 2))) (some (228, true)),
    .mk4 29 (some 231) (.pick (.t 228) (.t 230) (.c (.bool false))) none,
    .mk4 30 (some 232) (.mv (.t 231)) none,
    .mk4 31 (some 233) (.mv (.t 30)) (some (232, true)),
    .mk4 32 (some 234) (.bin .eql (.t 233) (.c (.i 0))) (some (232, true)),
    .mk4 33 (some 235) (.pick (.t 232) (.t 234) (.c (.bool false))) none,
    .mk4 34 (some 236) (.mv (.t 235)) none,
    .mk4 35 (some 237) (.mv (.t 31)) (some (236, true)),
    .mk4 36 (some 238) (.bin .eql (.t 237) (.c (.i 3))) (some (236, true)),
    .mk4 37 (some 239) (.pick (.t 236) (.t 238) (.c (.bool false))) none,
    .mk4 38 (some 240) (.mv (.t 239)) none,
    .mk4 39 (some 241) (.mv (.t 32)) (some (240, true)),
    .mk4 40 (some 242) (.bin .eql (.t 241) (.c (.i 4))) (some (240, true)),
    .mk4 41 (some 243) (.pick (.t 240) (.t 242) (.c (.bool false))) none,
    .mk4 42 (some 244) (.mv (.t 243)) none,
    .mk4 43 (some 245) (.mv (.t 33)) (some (244, true)),
    .mk4 44 (some 246) (.bin .eql (.t 245) (.c (.i 0))) (some (244, true)),
    .mk4 45 (some 247) (.pick (.t 244) (.t 246) (.c (.bool false))) none,
    .mk4 46 (some 248) (.mv (.t 247)) none,
    .mk4 47 (some 249) (.mv (.t 34)) (some (248, true)),
    .mk4 48 (some 250) (.bin .eql (.t 249) (.c (.i 0))) (some (248, true)),
    .mk4 49 (some 251) (.pick (.t 248) (.t 250) (.c (.bool false))) none,
    .mk4 50 (some 252) (.mv (.t 251)) none,
    .mk4 51 (some 253) (.mv (.t 35)) (some (252, true)),
    .mk4 52 (some 254) (.bin .eql (.t 253) (.c (.i 0))) (some (252, true)),
    .mk4 53 (some 255) (.pick (.t 252) (.t 254) (.c (.bool false))) none,
    .mk4 54 (some 256) (.mv (.t 255)) none,
    .mk4 55 (some 257) (.mv (.t 36)) (some (256, true)),
    .mk4 56 (some 258) (.bin .eql (.t 257) (.c (.i 0))) (some (256, true)),
    .mk4 57 (some 259) (.pick (.t 256) (.t 258) (.c (.bool false))) none,
    .mk4 58 (some 260) (.mv (.t 259)) none,
    .mk4 59 (some 261) (.mv (.t 37)) (some (260, true)),
    .mk4 60 (some 262) (.bin .eql (.t 261) (.c (.i 0))) (some (260, true)),
    .mk4 61 (some 263) (.pick (.t 260) (.t 262) (.c (.bool false))) none,
    .mk4 62 (some 264) (.mv (.t 263)) none,
    .mk4 63 (some 265) (.mv (.t 38)) (some (264, true)),
    .mk4 64 (some 266) (.pick (.t 264) (.t 265) (.c (.bool false))) none,
    .mk4 65 (some 267) (.mv (.t 266)) none,
    .mk4 66 (some 268) (.mv (.t 39)) (some (267, true)),
    .mk4 67 (some 269) (.lenL (.t 268)) (some (267, true)),
    .mk4 68 (some 270) (.bin .eql (.t 269) (.c (.i 1))) (some (267, true)),
    .mk4 69 (some 271) (.pick (.t 267) (.t 270) (.c (.bool false))) none,
    .mk4 70 (some 272) (.mv (.t 271)) none,
    .mk4 71 (some 273) (.mv (.t 39)) (some (272, true)),
    .mk4 72 (some 274) (.ixaS 2 (.t 273) (.c (.i 0))) (some (272, true)),
    .mk4 73 (some 275) (.loadN 2 (.t 274)) (some (272, true)),
    .mk4 74 (some 276) (.build [.i 0, .i 0] [(0, 1, (.c (.i 2))), (1, 1, (.c (.i 2)))]) (some (272, true)),
    .mk4 75 (some 277) (.eq (.agg [.int .i64, .int .i64]) false (.t 275) (.t 276)) (some (272, true)),
    .mk4 76 (some 278) (.pick (.t 272) (.t 277) (.c (.bool false))) none,
    .mk4 77 (some 279) (.mv (.t 278)) none,
    .mk4 78 (some 280) (.mv (.t 1)) (some (279, true)),
    .mk4 79 (some 281) (.call 11 [(.t 280), (.c (.i 3))]) (some (279, true)),
    .mk4 80 (some 282) (.field 1 none (.t 281)) (some (279, true)),
    .mk4 81 (some 283) (.un .not (.t 282)) (some (279, true)),
    .mk4 82 (some 284) (.pick (.t 279) (.t 283) (.c (.bool false))) none,
    .mk4 83 (some 40) (.mv (.t 284)) none] [20, 40]) (.seq (.region 0 [.mk4 0 (some 41) (.mv (.c (.ptr none))) none] [20, 40, 41]) (.seq (.region 0 [.mk4 0 (some 42) (.alloc 294 ((List.replicate 96 ([.bool false, .i 0, .i 0] : List V)).flatten ++ [.nils, .ptr none, .int .u64 0, .bool false, .i 0, .i 0])) none] [20, 40, 41, 42]) (c3_5)))
def c3_7 : AC :=
  .seq (.region 0 [.mk4 0 (some 197) (.mv (.t 1)) none,
    .mk4 1 (some 198) (.call 11 [(.t 197), (.c (.i 3))]) none,
    .mk4 2 (some 199) (.field 1 none (.t 198)) none,
    .mk4 3 (some 38) (.mv (.t 199)) none] [1, 20, 21, 22, 23, 24, 25, 27, 28, 29, 30, 31, 32, 33, 34, 35, 36, 37, 38]) (.seq (.region 0 [.mk4 0 (some 200) (.mv (.t 1)) none,
    .mk4 1 (some 201) (.call 20 [(.t 200)]) none,
    .mk4 2 (some 39) (.mv (.t 201)) none] [1, 20, 21, 22, 23, 24, 25, 27, 28, 29, 30, 31, 32, 33, 34, 35, 36, 37, 38, 39]) (c3_6))
def c3_8 : AC :=
  .seq (.region 0 [.mk4 0 (some 189) (.mv (.t 1)) none,
    .mk4 1 (some 190) (.call 17 [(.t 189), (.c (.i 3)), (.c (.i 4))]) none,
    .mk4 2 (some 191) (.mv (.t 1)) none,
    .mk4 3 (some 192) (.call 18 [(.t 191), (.c (.i 2)), (.c (.bool true))]) none,
    .mk4 4 (some 193) (.mv (.t 1)) none,
    .mk4 5 (some 194) (.call 19 [(.t 193), (.c (.i 2))]) none,
    .mk4 6 (some 195) (.mv (.t 1)) none,
    .mk4 7 (some 196) (.call 19 [(.t 195), (.c (.i 2))]) none,
    .mk4 8 (some 34) (.mv (.t 190)) none,
    .mk4 9 (some 35) (.mv (.t 192)) none,
    .mk4 10 (some 36) (.mv (.t 194)) none,
    .mk4 11 (some 37) (.mv (.t 196)) none] [1, 20, 21, 22, 23, 24, 25, 27, 28, 29, 30, 31, 32, 33, 34, 35, 36, 37]) (c3_7)
def c3_9 : AC :=
  .seq (.region 0 [.mk4 0 (some 184) (.mv (.t 1)) none,
    .mk4 1 (some 185) (.call 16 [(.t 184), (.c (.i 8))]) none,
    .mk4 2 (some 183) (.mv (.t 185)) none,
    .mk4 3 (some 186) (.extract (.t 183) 0) none,
    .mk4 4 (some 187) (.extract (.t 183) 1) none,
    .mk4 5 (some 188) (.extract (.t 183) 2) none,
    .mk4 6 (some 31) (.mv (.t 186)) none,
    .mk4 7 (some 32) (.mv (.t 187)) none,
    .mk4 8 (some 33) (.mv (.t 188)) none] [1, 20, 21, 22, 23, 24, 25, 27, 28, 29, 30, 31, 32, 33]) (c3_8)
def c3_10 : AC :=
  .seq (.region 0 [.mk4 0 (some 178) (.mv (.t 1)) none,
    .mk4 1 (some 179) (.call 15 [(.t 178), (.c (.i 1))]) none,
    .mk4 2 (some 177) (.mv (.t 179)) none,
    .mk4 3 (some 180) (.extract (.t 177) 0) none,
    .mk4 4 (some 181) (.extract (.t 177) 1) none,
    .mk4 5 (some 182) (.extract (.t 177) 2) none,
    .mk4 6 (some 28) (.mv (.t 180)) none,
    .mk4 7 (some 29) (.mv (.t 181)) none,
    .mk4 8 (some 30) (.mv (.t 182)) none] [1, 20, 21, 22, 23, 24, 25, 27, 28, 29, 30]) (c3_9)
def c3_11 : AC :=
  .seq (.region 0 [.mk4 0 (some 173) (.mv (.t 1)) none,
    .mk4 1 (some 174) (.call 14 [(.t 173), (.c (.i 1)), (.c (.i 9))]) none,
    .mk4 2 (some 172) (.mv (.t 174)) none,
    .mk4 3 (some 175) (.extract (.t 172) 0) none,
    .mk4 4 (some 176) (.extract (.t 172) 1) none,
    .mk4 5 (some 26) (.mv (.t 175)) none,
    .mk4 6 (some 27) (.mv (.t 176)) none] [1, 20, 21, 22, 23, 24, 25, 27]) (c3_10)
def c3_12 : AC :=
  .seq (.region 0 [.mk4 0 (some 168) (.mv (.t 1)) none,
    .mk4 1 (some 169) (.call 14 [(.t 168), (.c (.i 1)), (.c (.i 9))]) none,
    .mk4 2 (some 167) (.mv (.t 169)) none,
    .mk4 3 (some 170) (.extract (.t 167) 0) none,
    .mk4 4 (some 171) (.extract (.t 167) 1) none,
    .mk4 5 (some 24) (.mv (.t 170)) none,
    .mk4 6 (some 25) (.mv (.t 171)) none] [1, 20, 21, 22, 23, 24, 25]) (c3_11)
def c3_13 : AC :=
  .seq (.region 0 [.mk4 0 (some 162) (.mv (.t 1)) none,
    .mk4 1 (some 163) (.call 13 [(.t 162), (.c (.i 1))]) none,
    .mk4 2 (some 161) (.mv (.t 163)) none,
    .mk4 3 (some 164) (.extract (.t 161) 0) none,
    .mk4 4 (some 165) (.extract (.t 161) 1) none,
    .mk4 5 (some 166) (.extract (.t 161) 2) none,
    .mk4 6 (some 21) (.mv (.t 164)) none,
    .mk4 7 (some 22) (.mv (.t 165)) none,
    .mk4 8 (some 23) (.mv (.t 166)) none] [1, 20, 21, 22, 23]) (c3_12)
def c3_14 : AC :=
  .seq (.region 0 [.mk4 0 (some 104) (.mv (.t 2)) none,
    .mk4 1 (some 105) (.ofBytes (.t 104)) none,
    .mk4 2 (some 106) (.bin .eql (.t 105) (.c (.str [100]))) none,
    .mk4 3 (some 107) (.mv (.t 106)) none,
    .mk4 4 (some 108) (.mv (.t 4)) (some (107, true)),
    .mk4 5 (some 109) (.bin .eql (.t 108) (.c (.i 0))) (some (107, true)),
    .mk4 6 (some 110) (.pick (.t 107) (.t 109) (.c (.bool false))) none,
    .mk4 7 (some 111) (.mv (.t 110)) none,
    .mk4 8 (some 112) (.mv (.t 7)) (some (111, true)),
    .mk4 9 (some 113) (.bin .eql (.t 112) (.c (.i 113))) (some (111, true)),
    .mk4 10 (some 114) (.pick (.t 111) (.t 113) (.c (.bool false))) none,
    .mk4 11 (some 115) (.mv (.t 114)) none,
    .mk4 12 (some 116) (.mv (.t 8)) (some (115, true)),
    .mk4 13 (some 117) (.bin .eql (.t 116) (.c (.i 0))) (some (115, true)),
    .mk4 14 (some 118) (.pick (.t 115) (.t 117) (.c (.bool false))) none,
    .mk4 15 (some 119) (.mv (.t 118)) none,
    .mk4 16 (some 120) (.mv (.t 10)) (some (119, true)),
    .mk4 17 (some 121) (.pick (.t 119) (.t 120) (.c (.bool false))) none,
    .mk4 18 (some 122) (.mv (.t 121)) none,
    .mk4 19 (some 123) (.mv (.t 11)) (some (122, true)),
    .mk4 20 (some 124) (.bin .eql (.t 123) (.c (.i 0))) (some (122, true)),
    .mk4 21 (some 125) (.pick (.t 122) (.t 124) (.c (.bool false))) none,
    .mk4 22 (some 126) (.mv (.t 125)) none,
    .mk4 23 (some 127) (.mv (.t 12)) (some (126, true)),
    .mk4 24 (some 128) (.bin .eql (.t 127) (.c (.i 4))) (some (126, true)),
    .mk4 25 (some 129) (.pick (.t 126) (.t 128) (.c (.bool false))) none,
    .mk4 26 (some 130) (.mv (.t 129)) none,
    .mk4 27 (some 131) (.mv (.t 13)) (some (130, true)),
    .mk4 28 (some 132) (.bin .eql (.t 131) (.c (.i 0))) (some (130, true)),
    .mk4 29 (some 133) (.pick (.t 130) (.t 132) (.c (.bool false))) none,
    .mk4 30 (some 134) (.mv (.t 133)) none,
    .mk4 31 (some 135) (.mv (.t 14)) (some (134, true)),
    .mk4 32 (some 136) (.ofBytes (.t 135)) (some (134, true)),
    .mk4 33 (some 137) (.bin .eql (.t 136) (.c (.str [49, 50]))) (some (134, true)),
    .mk4 34 (some 138) (.pick (.t 134) (.t 137) (.c (.bool false))) none,
    .mk4 35 (some 139) (.mv (.t 138)) none,
    .mk4 36 (some 140) (.mv (.t 15)) (some (139, true)),
    .mk4 37 (some 141) (.bin .eql (.t 140) (.c (.i 0))) (some (139, true)),
    .mk4 38 (some 142) (.pick (.t 139) (.t 141) (.c (.bool false))) none,
    .mk4 39 (some 143) (.mv (.t 142)) none,
    .mk4 40 (some 144) (.faddr 6 (.t 16)) (some (143, true)),
    .mk4 41 (some 145) (.load1 (.t 144)) (some (143, true)),
    .mk4 42 (some 146) (.bin .eql (.t 145) (.c (.int .u64 1))) (some (143, true)),
    .mk4 43 (some 147) (.pick (.t 143) (.t 146) (.c (.bool false))) none,
    .mk4 44 (some 148) (.mv (.t 147)) none,
    .mk4 45 (some 149) (.mv (.t 17)) (some (148, true)),
    .mk4 46 (some 150) (.bin .eql (.t 149) (.c (.i 0))) (some (148, true)),
    .mk4 47 (some 151) (.pick (.t 148) (.t 150) (.c (.bool false))) none,
    .mk4 48 (some 152) (.mv (.t 151)) none,
    .mk4 49 (some 153) (.mv (.t 19)) (some (152, true)),
    .mk4 50 (some 154) (.bin .eql (.t 153) (.c (.i 114))) (some (152, true)),
    .mk4 51 (some 155) (.pick (.t 152) (.t 154) (.c (.bool false))) none,
    .mk4 52 (some 156) (.mv (.t 155)) none,
    .mk4 53 (some 157) (.mv (.t 1)) (some (156, true)),
    .mk4 54 (some 158) (.call 11 [(.t 157), (.c (.i 0))]) (some (156, true)),
    .mk4 55 (some 159) (.field 3 none (.t 158)) (some (156, true)),
    .mk4 56 (some 160) (.pick (.t 156) (.t 159) (.c (.bool false))) none,
    .mk4 57 (some 20) (.mv (.t 160)) none] [1, 20]) (c3_13)
def c3_15 : AC :=
  .seq (.region 0 [.mk4 0 (some 98) (.mv (.t 1)) none,
    .mk4 1 (some 99) (.bslice 1 1 [.int .u8 0] [(0, (.c (.int .u8 49)))]) none,
    .mk4 2 (some 100) (.mark (.t 99)) none,
    .mk4 3 (some 101) (.call 9 [(.t 98), (.c (.i 0)), (.t 100)]) none,
    .mk4 4 (some 97) (.mv (.t 101)) none,
    .mk4 5 (some 102) (.extract (.t 97) 0) none,
    .mk4 6 (some 103) (.extract (.t 97) 1) none,
    .mk4 7 (some 18) (.mv (.t 102)) none,
    .mk4 8 (some 19) (.mv (.t 103)) none] [1, 2, 4, 7, 8, 10, 11, 12, 13, 14, 15, 16, 17, 19]) (c3_14)
def c3_16 : AC :=
  .seq (.region 0 [.mk4 0 (some 93) (.mv (.t 1)) none,
    .mk4 1 (some 94) (.call 11 [(.t 93), (.c (.i 0))]) none,
    .mk4 2 (some 16) (.alloc 7 [.bool false, .bool false, .bool false, .bool false, .bool false, .int .u64 0, .int .u64 0]) none,
    .mk4 3 none (.store 7 (.t 16) (.t 94)) none] [1, 2, 4, 7, 8, 10, 11, 12, 13, 14, 15, 16]) (.seq (.region 0 [.mk4 0 (some 95) (.mv (.t 1)) none,
    .mk4 1 (some 96) (.call 12 [(.t 95), (.c (.i 0))]) none,
    .mk4 2 (some 17) (.mv (.t 96)) none] [1, 2, 4, 7, 8, 10, 11, 12, 13, 14, 15, 16, 17]) (c3_15))
def c3_17 : AC :=
  .seq (.region 0 [.mk4 0 (some 89) (.mv (.t 1)) none,
    .mk4 1 (some 90) (.call 10 [(.t 89), (.c (.i 0)), (.c (.i 2))]) none,
    .mk4 2 (some 88) (.mv (.t 90)) none,
    .mk4 3 (some 91) (.extract (.t 88) 0) none,
    .mk4 4 (some 92) (.extract (.t 88) 1) none,
    .mk4 5 (some 14) (.mv (.t 91)) none,
    .mk4 6 (some 15) (.mv (.t 92)) none] [1, 2, 4, 7, 8, 10, 11, 12, 13, 14, 15]) (c3_16)
def c3_18 : AC :=
  .seq (.region 0 [.mk4 0 (some 82) (.mv (.t 1)) none,
    .mk4 1 (some 83) (.bslice 1 5 [.int .u8 0, .int .u8 0, .int .u8 0, .int .u8 0, .int .u8 0] [(0, (.c (.int .u8 49))), (1, (.c (.int .u8 50))), (2, (.c (.int .u8 51))), (3, (.c (.int .u8 52))), (4, (.c (.int .u8 53)))]) none,
    .mk4 2 (some 84) (.mark (.t 83)) none,
    .mk4 3 (some 85) (.call 9 [(.t 82), (.c (.i 0)), (.t 84)]) none,
    .mk4 4 (some 81) (.mv (.t 85)) none,
    .mk4 5 (some 86) (.extract (.t 81) 0) none,
    .mk4 6 (some 87) (.extract (.t 81) 1) none,
    .mk4 7 (some 12) (.mv (.t 86)) none,
    .mk4 8 (some 13) (.mv (.t 87)) none] [1, 2, 4, 7, 8, 10, 11, 12, 13]) (c3_17)
def c3_19 : AC :=
  .seq (.region 0 [.mk4 0 (some 76) (.mv (.t 1)) none,
    .mk4 1 (some 77) (.call 7 [(.t 76), (.c (.i 0)), (.c (.i 9))]) none,
    .mk4 2 (some 75) (.mv (.t 77)) none,
    .mk4 3 (some 78) (.extract (.t 75) 0) none,
    .mk4 4 (some 79) (.extract (.t 75) 1) none,
    .mk4 5 (some 80) (.extract (.t 75) 2) none,
    .mk4 6 (some 9) (.mv (.t 78)) none,
    .mk4 7 (some 10) (.mv (.t 79)) none,
    .mk4 8 (some 11) (.mv (.t 80)) none] [1, 2, 4, 7, 8, 10, 11]) (c3_18)
def c3_20 : AC :=
  .seq (.region 0 [.mk4 0 (some 68) (.mv (.t 1)) none,
    .mk4 1 (some 69) (.call 7 [(.t 68), (.c (.i 0)), (.c (.i 9))]) none,
    .mk4 2 (some 67) (.mv (.t 69)) none,
    .mk4 3 (some 70) (.extract (.t 67) 0) none,
    .mk4 4 (some 71) (.extract (.t 67) 1) none,
    .mk4 5 (some 72) (.extract (.t 67) 2) none,
    .mk4 6 (some 5) (.mv (.t 70)) none,
    .mk4 7 (some 6) (.mv (.t 71)) none,
    .mk4 8 (some 7) (.mv (.t 72)) none] [1, 2, 4, 7]) (.seq (.region 0 [.mk4 0 (some 73) (.mv (.t 1)) none,
    .mk4 1 (some 74) (.call 8 [(.t 73), (.c (.i 0))]) none,
    .mk4 2 (some 8) (.mv (.t 74)) none] [1, 2, 4, 7, 8]) (c3_19))
def c3_21 : AC :=
  .seq (.region 0 [.mk4 0 (some 62) (.mv (.t 1)) none,
    .mk4 1 (some 63) (.call 7 [(.t 62), (.c (.i 0)), (.c (.i 9))]) none,
    .mk4 2 (some 61) (.mv (.t 63)) none,
    .mk4 3 (some 64) (.extract (.t 61) 0) none,
    .mk4 4 (some 65) (.extract (.t 61) 1) none,
    .mk4 5 (some 66) (.extract (.t 61) 2) none,
    .mk4 6 (some 2) (.mv (.t 64)) none,
    .mk4 7 (some 3) (.mv (.t 65)) none,
    .mk4 8 (some 4) (.mv (.t 66)) none] [1, 2, 4]) (c3_20)
def c3_22 : AC :=
  .seq (.region 0 [.mk4 0 (some 55) (.mv (.t 1)) none,
    .mk4 1 (some 56) (.call 5 [(.t 55), (.c (.i 4))]) none] [1]) (.seq (.region 0 [.mk4 0 (some 57) (.mv (.t 1)) none,
    .mk4 1 (some 58) (.bslice 1 1 [.int .u8 0] [(0, (.c (.int .u8 100)))]) none,
    .mk4 2 (some 59) (.mark (.t 58)) none,
    .mk4 3 (some 60) (.call 6 [(.t 57), (.c (.i 0)), (.t 59)]) none] [1]) (c3_21))
def c3 : AFn := ⟨0, 378, [.tmp 0],
  (.seq (.region 0 [.mk4 0 (some 0) (.mv (.c (.bool false))) none] []) (.seq (.region 0 [.mk4 0 (some 54) (.call 4 []) none,
    .mk4 1 (some 1) (.mv (.t 54)) none] [1]) (c3_22)))⟩
def c4_0 : AC :=
  .seq (.region 0 [.mk4 0 (some 1) (.call 29 []) none,
    .mk4 1 (some 2) (.build ((List.replicate 96 ([.bool false, .i 0, .i 0] : List V)).flatten ++ [.nils, .ptr none, .int .u64 0, .bool false, .i 0, .i 0]) [(289, 1, (.t 1))]) none,
    .mk4 2 (some 3) (.box 294 (.t 2)) none,
    .mk4 3 (some 0) (.mv (.t 3)) none] [0]) (.ret)
def c4 : AFn := ⟨0, 4, [.tmp 0],
  (.seq (.region 0 [.mk4 0 (some 0) (.mv (.c (.ptr none))) none] []) (c4_0))⟩
def c5_0 : AC :=
  .seq (.region 0 [.mk4 0 (some 26) (.mv (.t 8)) none,
    .mk4 1 (some 27) (.ixaS 1 (.t 26) (.c (.i 0))) none,
    .mk4 2 (some 28) (.load1 (.t 27)) none,
    .mk4 3 (some 29) (.mv (.t 0)) none,
    .mk4 4 (some 30) (.nilck (.t 29)) none,
    .mk4 5 (some 31) (.faddr 288 (.t 30)) none,
    .mk4 6 (some 32) (.load1 (.t 31)) none,
    .mk4 7 (some 33) (.lenL (.t 32)) none,
    .mk4 8 (some 34) (.bin .sub (.t 33) (.c (.i 1))) none,
    .mk4 9 (some 4) (.mv (.t 28)) none,
    .mk4 10 (some 5) (.mv (.t 34)) none,
    .mk4 11 (some 6) (.mv (.c (.i 0))) none] [4, 5, 6]) (.ret)
def c5_1 : AC :=
  .seq (.seq (.region 0 [.mk4 0 (some 23) (.mv (.t 6)) none,
    .mk4 1 (some 24) (.bin .neq (.t 23) (.c (.i 0))) none] [0, 6, 8, 24]) (.cond (.t 24) (.seq (.region 0 [.mk4 0 (some 25) (.mv (.t 6)) none,
    .mk4 1 (some 4) (.mv (.c (.i 0))) none,
    .mk4 2 (some 5) (.mv (.c (.i 0))) none,
    .mk4 3 (some 6) (.mv (.t 25)) none] [4, 5, 6]) (.ret)) (.skip))) (c5_0)
def c5_2 : AC :=
  .seq (.region 0 [.mk4 0 (some 17) (.mv (.t 0)) none,
    .mk4 1 (some 18) (.mv (.t 1)) none,
    .mk4 2 (some 19) (.mv (.t 7)) none,
    .mk4 3 (some 20) (.call 31 [(.t 17), (.t 18), (.c (.i 1)), (.t 19)]) none,
    .mk4 4 (some 16) (.mv (.t 20)) none,
    .mk4 5 (some 21) (.extract (.t 16) 0) none,
    .mk4 6 (some 22) (.extract (.t 16) 1) none,
    .mk4 7 (some 8) (.mv (.t 21)) none,
    .mk4 8 (some 6) (.mv (.t 22)) none] [0, 6, 8]) (c5_1)
def c5_3 : AC :=
  .seq (.region 0 [.mk4 0 (some 11) (.mv (.t 7)) none,
    .mk4 1 (some 12) (.nilck (.t 11)) none,
    .mk4 2 (some 13) (.faddr 0 (.t 12)) none,
    .mk4 3 (some 14) (.ixaA 2 7 (.t 13) (.c (.i 1))) none,
    .mk4 4 (some 15) (.faddr 0 (.t 14)) none,
    .mk4 5 none (.store 1 (.t 15) (.c (.i 2))) none] [0, 1, 7]) (c5_2)
def c5_4 : AC :=
  .seq (.region 0 [.mk4 0 (some 4) (.mv (.c (.i 0))) none,
    .mk4 1 (some 5) (.mv (.c (.i 0))) none,
    .mk4 2 (some 6) (.mv (.c (.i 0))) none] [0, 1]) (.seq (.region 0 [.mk4 0 (some 9) (.mv (.t 1)) none,
    .mk4 1 (some 10) (.call 30 [(.t 9)]) none,
    .mk4 2 (some 7) (.mv (.t 10)) none] [0, 1, 7]) (c5_3))
def c5 : AFn := ⟨2, 35, [.tmp 4, .tmp 5, .tmp 6],
  (c5_4)⟩
def c6_0 : AC :=
  .seq (.region 0 [.mk4 0 (some 26) (.mv (.t 8)) none,
    .mk4 1 (some 27) (.nilck (.t 26)) none,
    .mk4 2 (some 28) (.faddr 0 (.t 27)) none,
    .mk4 3 (some 29) (.ixaA 2 7 (.t 28) (.c (.i 1))) none,
    .mk4 4 (some 30) (.faddr 4 (.t 29)) none,
    .mk4 5 (some 31) (.load1 (.t 30)) none,
    .mk4 6 (some 32) (.mv (.t 31)) none,
    .mk4 7 (some 33) (.mv (.t 8)) (some (32, false)),
    .mk4 8 (some 34) (.nilck (.t 33)) (some (32, false)),
    .mk4 9 (some 35) (.faddr 0 (.t 34)) (some (32, false)),
    .mk4 10 (some 36) (.ixaA 2 7 (.t 35) (.c (.i 0))) (some (32, false)),
    .mk4 11 (some 37) (.faddr 0 (.t 36)) (some (32, false)),
    .mk4 12 (some 38) (.load1 (.t 37)) (some (32, false)),
    .mk4 13 (some 39) (.bin .eql (.t 38) (.c (.i 3))) (some (32, false)),
    .mk4 14 (some 40) (.pick (.t 32) (.c (.bool true)) (.t 39)) none,
    .mk4 15 (some 25) (.mv (.t 40)) none] [2, 8, 25]) (.cond (.t 25) (.seq (.region 0 [.mk4 0 (some 6) (.mv (.c (.i 0))) none,
    .mk4 1 (some 7) (.mv (.c (.i 114))) none] [6, 7]) (.ret)) (.skip))
def c6_1 : AC :=
  .seq (.region 0 [.mk4 0 (some 21) (.mv (.t 8)) none,
    .mk4 1 (some 22) (.nilck (.t 21)) none,
    .mk4 2 (some 23) (.faddr 14 (.t 22)) none,
    .mk4 3 (some 24) (.load1 (.t 23)) none,
    .mk4 4 (some 20) (.mv (.t 24)) none] [2, 8, 20]) (.cond (.t 20) (.seq (.region 0 [.mk4 0 (some 6) (.mv (.c (.i 0))) none,
    .mk4 1 (some 7) (.mv (.c (.i 115))) none] [6, 7]) (.ret)) (c6_0))
def c6_2 : AC :=
  .seq (.region 0 [.mk4 0 (some 17) (.mv (.t 9)) none,
    .mk4 1 (some 18) (.bin .neq (.t 17) (.c (.i 0))) none,
    .mk4 2 (some 16) (.mv (.t 18)) none] [2, 8, 9, 16]) (.cond (.t 16) (.seq (.region 0 [.mk4 0 (some 19) (.mv (.t 9)) none,
    .mk4 1 (some 6) (.mv (.c (.i 0))) none,
    .mk4 2 (some 7) (.mv (.t 19)) none] [6, 7]) (.ret)) (c6_1))
def c6_3 : AC :=
  .seq (.region 0 [.mk4 0 (some 11) (.mv (.t 0)) none,
    .mk4 1 (some 12) (.mv (.t 1)) none,
    .mk4 2 (some 13) (.call 32 [(.t 11), (.t 12)]) none,
    .mk4 3 (some 10) (.mv (.t 13)) none,
    .mk4 4 (some 14) (.extract (.t 10) 0) none,
    .mk4 5 (some 15) (.extract (.t 10) 1) none,
    .mk4 6 (some 8) (.mv (.t 14)) none,
    .mk4 7 (some 9) (.mv (.t 15)) none] [2, 8, 9]) (.seq (.block 0 (c6_2)) (.seq (.region 0 [.mk4 0 (some 41) (.mv (.t 8)) none,
    .mk4 1 (some 42) (.mv (.t 2)) none,
    .mk4 2 (some 43) (.call 33 [(.t 41), (.c (.i 1)), (.t 42)]) none,
    .mk4 3 (some 6) (.mv (.t 43)) none,
    .mk4 4 (some 7) (.mv (.c (.i 0))) none] [6, 7]) (.ret)))
def c6 : AFn := ⟨3, 44, [.tmp 6, .tmp 7],
  (.seq (.region 0 [.mk4 0 (some 6) (.mv (.c (.i 0))) none,
    .mk4 1 (some 7) (.mv (.c (.i 0))) none] [0, 1, 2]) (c6_3))⟩
def c7_0 : AC :=
  .seq (.region 0 [.mk4 0 (some 45) (.mv (.t 6)) none,
    .mk4 1 (some 46) (.lenL (.t 45)) none,
    .mk4 2 (some 47) (.bin .gtr (.t 46) (.c (.i 0))) none] [6, 9, 10, 47]) (.cond (.t 47) (.seq (.region 0 [.mk4 0 (some 48) (.mv (.t 6)) none,
    .mk4 1 (some 6) (.mv (.t 48)) none,
    .mk4 2 (some 7) (.mv (.c (.bool false))) none,
    .mk4 3 (some 8) (.mv (.c (.i 0))) none] [6, 7, 8]) (.ret)) (.skip))
def c7_1 : AC :=
  .seq (.seq (.region 0 [.mk4 0 (some 49) (.mv (.t 10)) none,
    .mk4 1 (some 50) (.faddr 2 (.t 9)) none,
    .mk4 2 (some 51) (.load1 (.t 50)) none,
    .mk4 3 (some 52) (.call 36 [(.t 49), (.t 51)]) none] [52]) (.cond (.t 52) (.seq (.region 0 [.mk4 0 (some 6) (.mv (.c (.nils))) none,
    .mk4 1 (some 7) (.mv (.c (.bool true))) none,
    .mk4 2 (some 8) (.mv (.c (.i 0))) none] [6, 7, 8]) (.ret)) (.skip))) (.seq (.region 0 [.mk4 0 (some 6) (.mv (.c (.nils))) none,
    .mk4 1 (some 7) (.mv (.c (.bool false))) none,
    .mk4 2 (some 8) (.mv (.c (.i 113))) none] [6, 7, 8]) (.ret))
def c7_2 : AC :=
  .seq (.region 0 [.mk4 0 (some 36) (.mv (.t 10)) none,
    .mk4 1 (some 37) (.nilck (.t 36)) none,
    .mk4 2 (some 38) (.faddr 14 (.t 37)) none,
    .mk4 3 (some 39) (.load1 (.t 38)) none,
    .mk4 4 (some 35) (.mv (.t 39)) none] [2, 9, 10, 35]) (.cond (.t 35) (.seq (.region 0 [.mk4 0 (some 6) (.mv (.c (.nils))) none,
    .mk4 1 (some 7) (.mv (.c (.bool false))) none,
    .mk4 2 (some 8) (.mv (.c (.i 115))) none] [6, 7, 8]) (.ret)) (.skip))
def c7_3 : AC :=
  .seq (.region 0 [.mk4 0 (some 33) (.mv (.t 2)) none,
    .mk4 1 (some 34) (.bin .lss (.t 33) (.c (.i 1))) none,
    .mk4 2 (some 32) (.mv (.t 34)) none] [2, 9, 10, 32]) (.cond (.t 32) (.seq (.region 0 [.mk4 0 (some 6) (.mv (.c (.nils))) none,
    .mk4 1 (some 7) (.mv (.c (.bool false))) none,
    .mk4 2 (some 8) (.mv (.c (.i 2))) none] [6, 7, 8]) (.ret)) (c7_2))
def c7_4 : AC :=
  .seq (.region 0 [.mk4 0 (some 23) (.mv (.t 10)) none,
    .mk4 1 (some 24) (.faddr 2 (.t 9)) none,
    .mk4 2 (some 25) (.load1 (.t 24)) none,
    .mk4 3 (some 26) (.nilck (.t 23)) none,
    .mk4 4 (some 27) (.faddr 0 (.t 26)) none,
    .mk4 5 (some 28) (.ixaA 2 7 (.t 27) (.t 25)) none,
    .mk4 6 (some 29) (.faddr 2 (.t 28)) none,
    .mk4 7 (some 30) (.load1 (.t 29)) none,
    .mk4 8 (some 31) (.eq .ptr false (.t 30) (.c (.ptr none))) none,
    .mk4 9 (some 22) (.mv (.t 31)) none] [2, 9, 10, 22]) (.cond (.t 22) (.seq (.region 0 [.mk4 0 (some 6) (.mv (.c (.nils))) none,
    .mk4 1 (some 7) (.mv (.c (.bool false))) none,
    .mk4 2 (some 8) (.mv (.c (.i 111))) none] [6, 7, 8]) (.ret)) (c7_3))
def c7_5 : AC :=
  .seq (.region 0 [.mk4 0 (some 19) (.mv (.t 8)) none,
    .mk4 1 (some 20) (.bin .neq (.t 19) (.c (.i 0))) none,
    .mk4 2 (some 18) (.mv (.t 20)) none] [2, 8, 9, 10, 18]) (.cond (.t 18) (.seq (.region 0 [.mk4 0 (some 21) (.mv (.t 8)) none,
    .mk4 1 (some 6) (.mv (.c (.nils))) none,
    .mk4 2 (some 7) (.mv (.c (.bool false))) none,
    .mk4 3 (some 8) (.mv (.t 21)) none] [6, 7, 8]) (.ret)) (c7_4))
def c7_6 : AC :=
  .seq (.seq (.region 0 [.mk4 0 (some 40) (.mv (.t 10)) none,
    .mk4 1 (some 41) (.faddr 2 (.t 9)) none,
    .mk4 2 (some 42) (.load1 (.t 41)) none,
    .mk4 3 (some 43) (.mv (.t 2)) none,
    .mk4 4 (some 44) (.call 35 [(.t 40), (.t 42), (.t 43)]) none,
    .mk4 5 (some 6) (.mv (.t 44)) none] [6, 9, 10]) (c7_0)) (c7_1)
def c7_7 : AC :=
  .seq (.region 0 [.mk4 0 (some 12) (.mv (.t 0)) none,
    .mk4 1 (some 13) (.mv (.t 1)) none,
    .mk4 2 (some 14) (.call 34 [(.t 12), (.t 13)]) none,
    .mk4 3 (some 11) (.mv (.t 14)) none,
    .mk4 4 (some 15) (.extract (.t 11) 0) none,
    .mk4 5 (some 16) (.extract (.t 11) 1) none,
    .mk4 6 (some 17) (.extract (.t 11) 2) none,
    .mk4 7 (some 9) (.alloc 3 [.bool false, .i 0, .i 0]) none,
    .mk4 8 none (.store 3 (.t 9) (.t 15)) none,
    .mk4 9 (some 10) (.mv (.t 16)) none,
    .mk4 10 (some 8) (.mv (.t 17)) none] [2, 8, 9, 10]) (.seq (.block 0 (c7_5)) (c7_6))
def c7 : AFn := ⟨3, 53, [.tmp 6, .tmp 7, .tmp 8],
  (.seq (.region 0 [.mk4 0 (some 6) (.mv (.c (.nils))) none,
    .mk4 1 (some 7) (.mv (.c (.bool false))) none,
    .mk4 2 (some 8) (.mv (.c (.i 0))) none] [0, 1, 2]) (c7_7))⟩
def c8_0 : AC :=
  .seq (.seq (.region 0 [.mk4 0 (some 13) (.mv (.t 6)) none,
    .mk4 1 (some 14) (.bin .eql (.t 13) (.c (.i 0))) none] [5, 6, 14]) (.cond (.t 14) (.region 0 [.mk4 0 (some 15) (.mv (.t 5)) none,
    .mk4 1 (some 16) (.call 37 [(.t 15), (.c (.i 1))]) none] [6]) (.skip))) (.seq (.region 0 [.mk4 0 (some 17) (.mv (.t 6)) none,
    .mk4 1 (some 4) (.mv (.t 17)) none] [4]) (.ret))
def c8_1 : AC :=
  .seq (.region 0 [.mk4 0 (some 8) (.mv (.t 0)) none,
    .mk4 1 (some 9) (.mv (.t 1)) none,
    .mk4 2 (some 10) (.call 32 [(.t 8), (.t 9)]) none,
    .mk4 3 (some 7) (.mv (.t 10)) none,
    .mk4 4 (some 11) (.extract (.t 7) 0) none,
    .mk4 5 (some 12) (.extract (.t 7) 1) none,
    .mk4 6 (some 5) (.mv (.t 11)) none,
    .mk4 7 (some 6) (.mv (.t 12)) none] [5, 6]) (c8_0)
def c8 : AFn := ⟨2, 18, [.tmp 4],
  (.seq (.region 0 [.mk4 0 (some 4) (.mv (.c (.i 0))) none] [0, 1]) (c8_1))⟩
def c9_0 : AC :=
  .seq (.seq (.region 0 [.mk4 0 (some 68) (.mv (.t 11)) none,
    .mk4 1 (some 69) (.bin .eql (.t 68) (.c (.i 0))) none] [11, 69]) (.cond (.t 69) (.seq (.region 0 [.mk4 0 (some 6) (.mv (.c (.i 0))) none,
    .mk4 1 (some 7) (.mv (.c (.i 113))) none] [6, 7]) (.ret)) (.skip))) (.seq (.region 0 [.mk4 0 (some 70) (.mv (.t 11)) none,
    .mk4 1 (some 6) (.mv (.t 70)) none,
    .mk4 2 (some 7) (.mv (.c (.i 0))) none] [6, 7]) (.ret))
def c9_1 : AC :=
  .seq (.region 0 [.mk4 0 (some 60) (.mv (.t 2)) none,
    .mk4 1 (some 61) (.lenL (.t 60)) none,
    .mk4 2 (some 62) (.bin .eql (.t 61) (.c (.i 0))) none,
    .mk4 3 (some 59) (.mv (.t 62)) none] [2, 8, 9, 59]) (.cond (.t 59) (.seq (.region 0 [.mk4 0 (some 6) (.mv (.c (.i 0))) none,
    .mk4 1 (some 7) (.mv (.c (.i 0))) none] [6, 7]) (.ret)) (.skip))
def c9_2 : AC :=
  .seq (.region 0 [.mk4 0 (some 39) (.mv (.t 9)) none,
    .mk4 1 (some 40) (.faddr 2 (.t 8)) none,
    .mk4 2 (some 41) (.load1 (.t 40)) none,
    .mk4 3 (some 42) (.nilck (.t 39)) none,
    .mk4 4 (some 43) (.faddr 0 (.t 42)) none,
    .mk4 5 (some 44) (.ixaA 2 7 (.t 43) (.t 41)) none,
    .mk4 6 (some 45) (.faddr 4 (.t 44)) none,
    .mk4 7 (some 46) (.load1 (.t 45)) none,
    .mk4 8 (some 47) (.mv (.t 46)) none,
    .mk4 9 (some 48) (.mv (.t 9)) (some (47, false)),
    .mk4 10 (some 49) (.faddr 2 (.t 8)) (some (47, false)),
    .mk4 11 (some 50) (.load1 (.t 49)) (some (47, false)),
    .mk4 12 (some 51) (.bin .sub (.c (.i 1)) (.t 50)) (some (47, false)),
    .mk4 13 (some 52) (.nilck (.t 48)) (some (47, false)),
    .mk4 14 (some 53) (.faddr 0 (.t 52)) (some (47, false)),
    .mk4 15 (some 54) (.ixaA 2 7 (.t 53) (.t 51)) (some (47, false)),
    .mk4 16 (some 55) (.faddr 0 (.t 54)) (some (47, false)),
    .mk4 17 (some 56) (.load1 (.t 55)) (some (47, false)),
    .mk4 18 (some 57) (.bin .eql (.t 56) (.c (.i 3))) (some (47, false)),
    .mk4 19 (some 58) (.pick (.t 47) (.c (.bool true)) (.t 57)) none,
    .mk4 20 (some 38) (.mv (.t 58)) none] [2, 8, 9, 38]) (.cond (.t 38) (.seq (.region 0 [.mk4 0 (some 6) (.mv (.c (.i 0))) none,
    .mk4 1 (some 7) (.mv (.c (.i 114))) none] [6, 7]) (.ret)) (c9_1))
def c9_3 : AC :=
  .seq (.region 0 [.mk4 0 (some 34) (.mv (.t 9)) none,
    .mk4 1 (some 35) (.nilck (.t 34)) none,
    .mk4 2 (some 36) (.faddr 14 (.t 35)) none,
    .mk4 3 (some 37) (.load1 (.t 36)) none,
    .mk4 4 (some 33) (.mv (.t 37)) none] [2, 8, 9, 33]) (.cond (.t 33) (.seq (.region 0 [.mk4 0 (some 6) (.mv (.c (.i 0))) none,
    .mk4 1 (some 7) (.mv (.c (.i 115))) none] [6, 7]) (.ret)) (c9_2))
def c9_4 : AC :=
  .seq (.region 0 [.mk4 0 (some 24) (.mv (.t 9)) none,
    .mk4 1 (some 25) (.faddr 2 (.t 8)) none,
    .mk4 2 (some 26) (.load1 (.t 25)) none,
    .mk4 3 (some 27) (.nilck (.t 24)) none,
    .mk4 4 (some 28) (.faddr 0 (.t 27)) none,
    .mk4 5 (some 29) (.ixaA 2 7 (.t 28) (.t 26)) none,
    .mk4 6 (some 30) (.faddr 3 (.t 29)) none,
    .mk4 7 (some 31) (.load1 (.t 30)) none,
    .mk4 8 (some 32) (.un .not (.t 31)) none,
    .mk4 9 (some 23) (.mv (.t 32)) none] [2, 8, 9, 23]) (.cond (.t 23) (.seq (.region 0 [.mk4 0 (some 6) (.mv (.c (.i 0))) none,
    .mk4 1 (some 7) (.mv (.c (.i 111))) none] [6, 7]) (.ret)) (c9_3))
def c9_5 : AC :=
  .seq (.region 0 [.mk4 0 (some 20) (.mv (.t 10)) none,
    .mk4 1 (some 21) (.bin .neq (.t 20) (.c (.i 0))) none,
    .mk4 2 (some 19) (.mv (.t 21)) none] [2, 8, 9, 10, 19]) (.cond (.t 19) (.seq (.region 0 [.mk4 0 (some 22) (.mv (.t 10)) none,
    .mk4 1 (some 6) (.mv (.c (.i 0))) none,
    .mk4 2 (some 7) (.mv (.t 22)) none] [6, 7]) (.ret)) (c9_4))
def c9_6 : AC :=
  .seq (.region 0 [.mk4 0 (some 63) (.mv (.t 9)) none,
    .mk4 1 (some 64) (.faddr 2 (.t 8)) none,
    .mk4 2 (some 65) (.load1 (.t 64)) none,
    .mk4 3 (some 66) (.mv (.t 2)) none,
    .mk4 4 (some 67) (.call 33 [(.t 63), (.t 65), (.t 66)]) none,
    .mk4 5 (some 11) (.mv (.t 67)) none] [11]) (c9_0)
def c9_7 : AC :=
  .seq (.region 0 [.mk4 0 (some 13) (.mv (.t 0)) none,
    .mk4 1 (some 14) (.mv (.t 1)) none,
    .mk4 2 (some 15) (.call 34 [(.t 13), (.t 14)]) none,
    .mk4 3 (some 12) (.mv (.t 15)) none,
    .mk4 4 (some 16) (.extract (.t 12) 0) none,
    .mk4 5 (some 17) (.extract (.t 12) 1) none,
    .mk4 6 (some 18) (.extract (.t 12) 2) none,
    .mk4 7 (some 8) (.alloc 3 [.bool false, .i 0, .i 0]) none,
    .mk4 8 none (.store 3 (.t 8) (.t 16)) none,
    .mk4 9 (some 9) (.mv (.t 17)) none,
    .mk4 10 (some 10) (.mv (.t 18)) none] [2, 8, 9, 10]) (.seq (.block 0 (c9_5)) (c9_6))
def c9 : AFn := ⟨3, 71, [.tmp 6, .tmp 7],
  (.seq (.region 0 [.mk4 0 (some 6) (.mv (.c (.i 0))) none,
    .mk4 1 (some 7) (.mv (.c (.i 0))) none] [0, 1, 2]) (c9_7))⟩
def c10_0 : AC :=
  .seq (.region 0 [.mk4 0 (some 24) (.mv (.t 8)) none,
    .mk4 1 (some 25) (.nilck (.t 24)) none,
    .mk4 2 (some 26) (.faddr 14 (.t 25)) none,
    .mk4 3 (some 27) (.load1 (.t 26)) none,
    .mk4 4 (some 23) (.mv (.t 27)) none] [2, 8, 23]) (.cond (.t 23) (.seq (.region 0 [.mk4 0 (some 6) (.mv (.c (.nils))) none,
    .mk4 1 (some 7) (.mv (.c (.i 115))) none] [6, 7]) (.ret)) (.skip))
def c10_1 : AC :=
  .seq (.region 0 [.mk4 0 (some 21) (.mv (.t 2)) none,
    .mk4 1 (some 22) (.bin .lss (.t 21) (.c (.i 0))) none,
    .mk4 2 (some 20) (.mv (.t 22)) none] [2, 8, 20]) (.cond (.t 20) (.seq (.region 0 [.mk4 0 (some 6) (.mv (.c (.nils))) none,
    .mk4 1 (some 7) (.mv (.c (.i 2))) none] [6, 7]) (.ret)) (c10_0))
def c10_2 : AC :=
  .seq (.region 0 [.mk4 0 (some 17) (.mv (.t 9)) none,
    .mk4 1 (some 18) (.bin .neq (.t 17) (.c (.i 0))) none,
    .mk4 2 (some 16) (.mv (.t 18)) none] [2, 8, 9, 16]) (.cond (.t 16) (.seq (.region 0 [.mk4 0 (some 19) (.mv (.t 9)) none,
    .mk4 1 (some 6) (.mv (.c (.nils))) none,
    .mk4 2 (some 7) (.mv (.t 19)) none] [6, 7]) (.ret)) (c10_1))
def c10_3 : AC :=
  .seq (.region 0 [.mk4 0 (some 11) (.mv (.t 0)) none,
    .mk4 1 (some 12) (.mv (.t 1)) none,
    .mk4 2 (some 13) (.call 32 [(.t 11), (.t 12)]) none,
    .mk4 3 (some 10) (.mv (.t 13)) none,
    .mk4 4 (some 14) (.extract (.t 10) 0) none,
    .mk4 5 (some 15) (.extract (.t 10) 1) none,
    .mk4 6 (some 8) (.mv (.t 14)) none,
    .mk4 7 (some 9) (.mv (.t 15)) none] [2, 8, 9]) (.seq (.block 0 (c10_2)) (.seq (.region 0 [.mk4 0 (some 28) (.mv (.t 8)) none,
    .mk4 1 (some 29) (.mv (.t 2)) none,
    .mk4 2 (some 30) (.call 35 [(.t 28), (.c (.i 1)), (.t 29)]) none,
    .mk4 3 (some 6) (.mv (.t 30)) none,
    .mk4 4 (some 7) (.mv (.c (.i 0))) none] [6, 7]) (.ret)))
def c10 : AFn := ⟨3, 31, [.tmp 6, .tmp 7],
  (.seq (.region 0 [.mk4 0 (some 6) (.mv (.c (.nils))) none,
    .mk4 1 (some 7) (.mv (.c (.i 0))) none] [0, 1, 2]) (c10_3))⟩
def c11_0 : AC :=
  .seq (.region 0 [.mk4 0 (some 85) (.faddr 3 (.t 8)) none,
    .mk4 1 (some 86) (.load1 (.t 85)) none,
    .mk4 2 (some 87) (.mv (.t 86)) none,
    .mk4 3 (some 88) (.faddr 4 (.t 8)) (some (87, true)),
    .mk4 4 (some 89) (.load1 (.t 88)) (some (87, true)),
    .mk4 5 (some 90) (.un .not (.t 89)) (some (87, true)),
    .mk4 6 (some 91) (.pick (.t 87) (.t 90) (.c (.bool false))) none,
    .mk4 7 (some 92) (.mv (.t 91)) none,
    .mk4 8 (some 93) (.faddr 3 (.t 10)) (some (92, true)),
    .mk4 9 (some 94) (.load1 (.t 93)) (some (92, true)),
    .mk4 10 (some 95) (.mv (.t 94)) (some (92, true)),
    .mk4 11 (some 96) (.mv (.t 6)) (some (95, false)),
    .mk4 12 (some 97) (.nilck (.t 96)) (some (95, false)),
    .mk4 13 (some 98) (.faddr 14 (.t 97)) (some (95, false)),
    .mk4 14 (some 99) (.load1 (.t 98)) (some (95, false)),
    .mk4 15 (some 100) (.pick (.t 95) (.c (.bool true)) (.t 99)) (some (92, true)),
    .mk4 16 (some 101) (.mv (.t 100)) (some (92, true)),
    .mk4 17 (some 102) (.faddr 2 (.t 9)) (some (101, false)),
    .mk4 18 (some 103) (.load1 (.t 102)) (some (101, false)),
    .mk4 19 (some 104) (.call 39 [(.t 103)]) (some (101, false)),
    .mk4 20 (some 105) (.bin .gtr (.t 104) (.c (.i 0))) (some (101, false)),
    .mk4 21 (some 106) (.pick (.t 101) (.c (.bool true)) (.t 105)) (some (92, true)),
    .mk4 22 (some 107) (.pick (.t 92) (.t 106) (.c (.bool false))) none,
    .mk4 23 (some 108) (.faddr 2 (.t 10)) none,
    .mk4 24 none (.store 1 (.t 108) (.t 107)) none] [4, 10]) (.seq (.region 0 [.mk4 0 (some 109) (.loadN 7 (.t 10)) none,
    .mk4 1 none (.store 7 (.t 4) (.t 109)) none] [4]) (.ret))
def c11_1 : AC :=
  .seq (.region 0 [.mk4 0 (some 63) (.faddr 2 (.t 8)) none,
    .mk4 1 (some 64) (.load1 (.t 63)) none,
    .mk4 2 (some 65) (.eq .ptr true (.t 64) (.c (.ptr none))) none,
    .mk4 3 (some 66) (.mv (.t 65)) none,
    .mk4 4 (some 67) (.faddr 2 (.t 8)) (some (66, true)),
    .mk4 5 (some 68) (.load1 (.t 67)) (some (66, true)),
    .mk4 6 (some 69) (.call 38 [(.t 68)]) (some (66, true)),
    .mk4 7 (some 70) (.bin .gtr (.t 69) (.c (.i 0))) (some (66, true)),
    .mk4 8 (some 71) (.mv (.t 70)) (some (66, true)),
    .mk4 9 (some 72) (.mv (.t 6)) (some (71, false)),
    .mk4 10 (some 73) (.faddr 2 (.t 5)) (some (71, false)),
    .mk4 11 (some 74) (.load1 (.t 73)) (some (71, false)),
    .mk4 12 (some 75) (.call 36 [(.t 72), (.t 74)]) (some (71, false)),
    .mk4 13 (some 76) (.pick (.t 71) (.c (.bool true)) (.t 75)) (some (66, true)),
    .mk4 14 (some 77) (.mv (.t 76)) (some (66, true)),
    .mk4 15 (some 78) (.mv (.t 6)) (some (77, false)),
    .mk4 16 (some 79) (.nilck (.t 78)) (some (77, false)),
    .mk4 17 (some 80) (.faddr 14 (.t 79)) (some (77, false)),
    .mk4 18 (some 81) (.load1 (.t 80)) (some (77, false)),
    .mk4 19 (some 82) (.pick (.t 77) (.c (.bool true)) (.t 81)) (some (66, true)),
    .mk4 20 (some 83) (.pick (.t 66) (.t 82) (.c (.bool false))) none,
    .mk4 21 (some 84) (.faddr 1 (.t 10)) none,
    .mk4 22 none (.store 1 (.t 84) (.t 83)) none] [4, 6, 8, 9, 10]) (c11_0)
def c11_2 : AC :=
  .seq (.region 0 [.mk4 0 (some 46) (.mv (.t 6)) none,
    .mk4 1 (some 47) (.nilck (.t 46)) none,
    .mk4 2 (some 48) (.faddr 16 (.t 47)) none,
    .mk4 3 (some 49) (.load1 (.t 48)) none,
    .mk4 4 (some 50) (.lenL (.t 49)) none,
    .mk4 5 (some 51) (.bin .gtr (.t 50) (.c (.i 0))) none,
    .mk4 6 (some 52) (.faddr 1 (.t 10)) none,
    .mk4 7 none (.store 1 (.t 52) (.t 51)) none] [4, 10]) (.seq (.region 0 [.mk4 0 (some 53) (.loadN 7 (.t 10)) none,
    .mk4 1 none (.store 7 (.t 4) (.t 53)) none] [4]) (.ret))
def c11_3 : AC :=
  .seq (.region 0 [.mk4 0 (some 54) (.faddr 0 (.t 9)) none,
    .mk4 1 (some 55) (.load1 (.t 54)) none,
    .mk4 2 (some 56) (.bin .eql (.t 55) (.c (.i 3))) none,
    .mk4 3 (some 57) (.mv (.t 6)) none,
    .mk4 4 (some 58) (.nilck (.t 57)) none,
    .mk4 5 (some 59) (.faddr 14 (.t 58)) none,
    .mk4 6 (some 60) (.load1 (.t 59)) none,
    .mk4 7 (some 61) (.faddr 3 (.t 10)) none,
    ⟨8, none, .store 1 (.t 61) (.t 56), none, none, [(60, .load1 (.t 59), none)]⟩,
    .mk4 9 (some 62) (.faddr 4 (.t 10)) none,
    .mk4 10 none (.store 1 (.t 62) (.t 60)) none] [4, 5, 6, 8, 9, 10]) (c11_1)
def c11_4 : AC :=
  .seq (.seq (.region 0 [.mk4 0 (some 41) (.mv (.t 6)) none,
    .mk4 1 (some 42) (.nilck (.t 41)) none,
    .mk4 2 (some 43) (.faddr 15 (.t 42)) none,
    .mk4 3 (some 44) (.load1 (.t 43)) none,
    .mk4 4 (some 45) (.bin .gtr (.t 44) (.c (.i 0))) none] [4, 5, 6, 8, 9, 10, 45]) (.cond (.t 45) (c11_2) (.skip))) (c11_3)
def c11_5 : AC :=
  .seq (.region 0 [.mk4 0 (some 36) (.faddr 5 (.t 8)) none,
    .mk4 1 (some 37) (.load1 (.t 36)) none,
    .mk4 2 (some 38) (.faddr 6 (.t 8)) none,
    .mk4 3 (some 39) (.load1 (.t 38)) none,
    .mk4 4 (some 40) (.build [.bool false, .bool false, .bool false, .bool false, .bool false, .int .u64 0, .int .u64 0] [(0, 1, (.c (.bool true))), (5, 1, (.t 37)), (6, 1, (.t 39))]) none,
    .mk4 5 (some 10) (.alloc 7 [.bool false, .bool false, .bool false, .bool false, .bool false, .int .u64 0, .int .u64 0]) none,
    .mk4 6 none (.store 7 (.t 10) (.t 40)) none] [4, 5, 6, 8, 9, 10]) (c11_4)
def c11_6 : AC :=
  .seq (.region 2 [.mk4 0 (some 21) (.mv (.t 6)) none,
    .mk4 1 (some 22) (.faddr 2 (.t 5)) none,
    .mk4 2 (some 23) (.load1 (.t 22)) none,
    .mk4 3 (some 24) (.nilck (.t 21)) none,
    .mk4 4 (some 25) (.faddr 0 (.t 24)) none,
    .mk4 5 (some 26) (.ixaA 2 7 (.t 25) (.t 23)) none,
    .mk4 6 (some 27) (.loadN 7 (.t 26)) none,
    .mk4 7 (some 28) (.mv (.t 6)) none,
    .mk4 8 (some 29) (.faddr 2 (.t 5)) none,
    .mk4 9 (some 30) (.load1 (.t 29)) none,
    .mk4 10 (some 31) (.bin .sub (.c (.i 1)) (.t 30)) none,
    .mk4 11 (some 32) (.nilck (.t 28)) none,
    .mk4 12 (some 33) (.faddr 0 (.t 32)) none,
    .mk4 13 (some 34) (.ixaA 2 7 (.t 33) (.t 31)) none,
    .mk4 14 (some 35) (.loadN 7 (.t 34)) none,
    ⟨15, (some 8), .alloc 7 [.i 0, .i 0, .ptr none, .bool false, .bool false, .int .u64 0, .int .u64 0], none, some 0, []⟩,
    ⟨16, (some 9), .alloc 7 [.i 0, .i 0, .ptr none, .bool false, .bool false, .int .u64 0, .int .u64 0], none, some 1, []⟩,
    ⟨17, none, .store 7 (.t 8) (.t 27), none, none, [(30, .load1 (.t 29), none), (35, .loadN 7 (.t 34), none)]⟩,
    .mk4 18 none (.store 7 (.t 9) (.t 35)) none] [4, 5, 6, 8, 9]) (c11_5)
def c11_7 : AC :=
  .seq (.seq (.region 0 [.mk4 0 (some 18) (.mv (.t 7)) none,
    .mk4 1 (some 19) (.bin .neq (.t 18) (.c (.i 0))) none] [4, 5, 6, 19]) (.cond (.t 19) (.seq (.region 0 [.mk4 0 (some 20) (.build [.bool false, .bool false, .bool false, .bool false, .bool false, .int .u64 0, .int .u64 0] []) none,
    .mk4 1 none (.store 7 (.t 4) (.t 20)) none] [4]) (.ret)) (.skip))) (c11_6)
def c11_8 : AC :=
  .seq (.region 0 [.mk4 0 (some 12) (.mv (.t 0)) none,
    .mk4 1 (some 13) (.mv (.t 1)) none,
    .mk4 2 (some 14) (.call 34 [(.t 12), (.t 13)]) none,
    .mk4 3 (some 11) (.mv (.t 14)) none,
    .mk4 4 (some 15) (.extract (.t 11) 0) none,
    .mk4 5 (some 16) (.extract (.t 11) 1) none,
    .mk4 6 (some 17) (.extract (.t 11) 2) none,
    .mk4 7 (some 5) (.alloc 3 [.bool false, .i 0, .i 0]) none,
    .mk4 8 none (.store 3 (.t 5) (.t 15)) none,
    .mk4 9 (some 6) (.mv (.t 16)) none,
    .mk4 10 (some 7) (.mv (.t 17)) none] [4, 5, 6, 7]) (c11_7)
def c11 : AFn := ⟨2, 110, [.cellN 4 7],
  (.seq (.region 0 [.mk4 0 (some 4) (.alloc 7 [.bool false, .bool false, .bool false, .bool false, .bool false, .int .u64 0, .int .u64 0]) none] [0, 1, 4]) (c11_8))⟩
def c12_0 : AC :=
  .seq (.seq (.region 0 [.mk4 0 (some 13) (.mv (.t 6)) none,
    .mk4 1 (some 14) (.bin .eql (.t 13) (.c (.i 0))) none] [5, 6, 14]) (.cond (.t 14) (.region 0 [.mk4 0 (some 15) (.mv (.t 5)) none,
    .mk4 1 (some 16) (.call 40 [(.t 15), (.c (.i 1))]) none] [6]) (.skip))) (.seq (.region 0 [.mk4 0 (some 17) (.mv (.t 6)) none,
    .mk4 1 (some 4) (.mv (.t 17)) none] [4]) (.ret))
def c12_1 : AC :=
  .seq (.region 0 [.mk4 0 (some 8) (.mv (.t 0)) none,
    .mk4 1 (some 9) (.mv (.t 1)) none,
    .mk4 2 (some 10) (.call 32 [(.t 8), (.t 9)]) none,
    .mk4 3 (some 7) (.mv (.t 10)) none,
    .mk4 4 (some 11) (.extract (.t 7) 0) none,
    .mk4 5 (some 12) (.extract (.t 7) 1) none,
    .mk4 6 (some 5) (.mv (.t 11)) none,
    .mk4 7 (some 6) (.mv (.t 12)) none] [5, 6]) (c12_0)
def c12 : AFn := ⟨2, 18, [.tmp 4],
  (.seq (.region 0 [.mk4 0 (some 4) (.mv (.c (.i 0))) none] [0, 1]) (c12_1))⟩
def c13_0 : AC :=
  .seq (.region 0 [.mk4 0 (some 27) (.mv (.t 7)) none,
    .mk4 1 (some 28) (.ixaS 1 (.t 27) (.c (.i 0))) none,
    .mk4 2 (some 29) (.load1 (.t 28)) none,
    .mk4 3 (some 30) (.mv (.t 0)) none,
    .mk4 4 (some 31) (.nilck (.t 30)) none,
    .mk4 5 (some 32) (.faddr 288 (.t 31)) none,
    .mk4 6 (some 33) (.load1 (.t 32)) none,
    .mk4 7 (some 34) (.lenL (.t 33)) none,
    .mk4 8 (some 35) (.bin .sub (.t 34) (.c (.i 1))) none,
    .mk4 9 (some 4) (.mv (.t 29)) none,
    .mk4 10 (some 5) (.mv (.t 35)) none,
    .mk4 11 (some 6) (.mv (.c (.i 0))) none] [4, 5, 6]) (.ret)
def c13_1 : AC :=
  .seq (.seq (.region 0 [.mk4 0 (some 24) (.mv (.t 6)) none,
    .mk4 1 (some 25) (.bin .neq (.t 24) (.c (.i 0))) none] [0, 6, 7, 25]) (.cond (.t 25) (.seq (.region 0 [.mk4 0 (some 26) (.mv (.t 6)) none,
    .mk4 1 (some 4) (.mv (.c (.i 0))) none,
    .mk4 2 (some 5) (.mv (.c (.i 0))) none,
    .mk4 3 (some 6) (.mv (.t 26)) none] [4, 5, 6]) (.ret)) (.skip))) (c13_0)
def c13_2 : AC :=
  .seq (.region 0 [.mk4 0 (some 16) (.mv (.t 0)) none,
    .mk4 1 (some 17) (.mv (.t 1)) none,
    .mk4 2 (some 18) (.mv (.t 1)) none,
    .mk4 3 (some 19) (.build [.i 0, .i 0, .ptr none, .bool false, .bool false, .int .u64 0, .int .u64 0, .i 0, .i 0, .ptr none, .bool false, .bool false, .int .u64 0, .int .u64 0, .bool false, .i 0, .nils] [(15, 1, (.t 18))]) none,
    .mk4 4 (some 20) (.box 17 (.t 19)) none,
    .mk4 5 (some 21) (.call 31 [(.t 16), (.t 17), (.c (.i 1)), (.t 20)]) none,
    .mk4 6 (some 15) (.mv (.t 21)) none,
    .mk4 7 (some 22) (.extract (.t 15) 0) none,
    .mk4 8 (some 23) (.extract (.t 15) 1) none,
    .mk4 9 (some 7) (.mv (.t 22)) none,
    .mk4 10 (some 6) (.mv (.t 23)) none] [0, 6, 7]) (c13_1)
def c13_3 : AC :=
  .seq (.seq (.region 0 [.mk4 0 (some 8) (.mv (.t 0)) none,
    .mk4 1 (some 9) (.call 41 [(.t 8)]) none,
    .mk4 2 (some 10) (.un .not (.t 9)) none,
    .mk4 3 (some 11) (.mv (.t 10)) none,
    .mk4 4 (some 12) (.mv (.t 1)) (some (11, true)),
    .mk4 5 (some 13) (.bin .gtr (.t 12) (.c (.i 64))) (some (11, true)),
    .mk4 6 (some 14) (.pick (.t 11) (.t 13) (.c (.bool false))) none] [0, 1, 14]) (.cond (.t 14) (.seq (.region 0 [.mk4 0 (some 4) (.mv (.c (.i 0))) none,
    .mk4 1 (some 5) (.mv (.c (.i 0))) none,
    .mk4 2 (some 6) (.mv (.c (.i 2))) none] [4, 5, 6]) (.ret)) (.skip))) (c13_2)
def c13 : AFn := ⟨2, 36, [.tmp 4, .tmp 5, .tmp 6],
  (.seq (.region 0 [.mk4 0 (some 4) (.mv (.c (.i 0))) none,
    .mk4 1 (some 5) (.mv (.c (.i 0))) none,
    .mk4 2 (some 6) (.mv (.c (.i 0))) none] [0, 1]) (c13_3))⟩
def c14_0 : AC :=
  .seq (.region 0 [.mk4 0 (some 137) (.mv (.t 0)) none,
    .mk4 1 (some 138) (.nilck (.t 137)) none,
    .mk4 2 (some 139) (.faddr 288 (.t 138)) none,
    .mk4 3 (some 140) (.load1 (.t 139)) none,
    .mk4 4 (some 141) (.lenL (.t 140)) none,
    .mk4 5 (some 142) (.bin .sub (.t 141) (.c (.i 1))) none,
    .mk4 6 (some 6) (.mv (.t 142)) none,
    .mk4 7 (some 7) (.mv (.c (.i 0))) none] [6, 7]) (.ret)
def c14_1 : AC :=
  .seq (.region 0 [.mk4 0 (some 127) (.mv (.t 0)) none,
    .mk4 1 (some 128) (.mv (.t 0)) none,
    .mk4 2 (some 129) (.nilck (.t 128)) none,
    .mk4 3 (some 130) (.faddr 288 (.t 129)) none,
    .mk4 4 (some 131) (.load1 (.t 130)) none,
    .mk4 5 (some 132) (.mv (.t 8)) none,
    .mk4 6 (some 133) (.bslice 1 1 [.ptr none] [(0, (.t 132))]) none,
    .mk4 7 (some 134) (.append 1 8 (.t 131) (.t 133)) none,
    .mk4 8 (some 135) (.nilck (.t 127)) none,
    .mk4 9 (some 136) (.faddr 288 (.t 135)) none,
    .mk4 10 none (.store 1 (.t 136) (.t 134)) none] [0]) (c14_0)
def c14_2 : AC :=
  .seq (.region 0 [.mk4 0 (some 116) (.mv (.t 9)) none,
    .mk4 1 (some 117) (.nilck (.t 116)) none,
    .mk4 2 (some 118) (.faddr 0 (.t 117)) none,
    .mk4 3 (some 119) (.ixaA 2 7 (.t 118) (.c (.i 0))) none,
    .mk4 4 (some 120) (.faddr 5 (.t 119)) none,
    .mk4 5 (some 121) (.load1 (.t 120)) none,
    .mk4 6 (some 122) (.bin .add (.t 121) (.c (.int .u64 1))) none,
    .mk4 7 (some 123) (.nilck (.t 116)) none,
    .mk4 8 (some 124) (.faddr 0 (.t 123)) none,
    .mk4 9 (some 125) (.ixaA 2 7 (.t 124) (.c (.i 0))) none,
    .mk4 10 (some 126) (.faddr 5 (.t 125)) none,
    .mk4 11 none (.store 1 (.t 126) (.t 122)) none] [0, 8]) (c14_1)
def c14_3 : AC :=
  .seq (.region 1 [.mk4 0 (some 101) (.mv (.t 9)) none,
    .mk4 1 (some 102) (.mv (.t 9)) none,
    .mk4 2 (some 103) (.nilck (.t 102)) none,
    .mk4 3 (some 104) (.faddr 16 (.t 103)) none,
    .mk4 4 (some 105) (.load1 (.t 104)) none,
    .mk4 6 (some 107) (.mv (.t 0)) none,
    .mk4 7 (some 108) (.nilck (.t 107)) none,
    .mk4 8 (some 109) (.faddr 288 (.t 108)) none,
    .mk4 9 (some 110) (.load1 (.t 109)) none,
    .mk4 10 (some 111) (.lenL (.t 110)) none,
    ⟨5, (some 106), .call 43 [(.t 105)], none, none, [(110, .load1 (.t 109), none)]⟩,
    ⟨11, (some 112), .bslice 1 1 [.i 0] [(0, (.t 111))], none, some 0, []⟩,
    .mk4 12 (some 113) (.append 1 8 (.t 106) (.t 112)) none,
    .mk4 13 (some 114) (.nilck (.t 101)) none,
    .mk4 14 (some 115) (.faddr 16 (.t 114)) none,
    .mk4 15 none (.store 1 (.t 115) (.t 113)) none] [0, 8, 9]) (c14_2)
def c14_4 : AC :=
  .seq (.region 0 [.mk4 0 (some 94) (.mv (.t 0)) none,
    .mk4 1 (some 95) (.nilck (.t 94)) none,
    .mk4 2 (some 96) (.faddr 288 (.t 95)) none,
    .mk4 3 (some 97) (.load1 (.t 96)) none,
    .mk4 4 (some 98) (.mv (.t 1)) none,
    .mk4 5 (some 99) (.ixaS 1 (.t 97) (.t 98)) none,
    .mk4 6 (some 100) (.load1 (.t 99)) none,
    .mk4 7 (some 9) (.mv (.t 100)) none] [0, 8, 9]) (c14_3)
def c14_5 : AC :=
  .seq (.region 0 [.mk4 0 (some 89) (.mv (.t 8)) none,
    .mk4 1 (some 90) (.nilck (.t 89)) none,
    .mk4 2 (some 91) (.faddr 0 (.t 90)) none,
    .mk4 3 (some 92) (.ixaA 2 7 (.t 91) (.c (.i 1))) none,
    .mk4 4 (some 93) (.faddr 0 (.t 92)) none,
    .mk4 5 none (.store 1 (.t 93) (.c (.i 2))) none] [0, 1, 8]) (c14_4)
def c14_6 : AC :=
  .seq (.region 0 [.mk4 0 (some 81) (.mv (.t 0)) none,
    .mk4 1 (some 82) (.nilck (.t 81)) none,
    .mk4 2 (some 83) (.faddr 288 (.t 82)) none,
    .mk4 3 (some 84) (.load1 (.t 83)) none,
    .mk4 4 (some 85) (.lenL (.t 84)) none,
    .mk4 5 (some 86) (.bin .geq (.t 85) (.c (.i 1000))) none,
    .mk4 6 (some 80) (.mv (.t 86)) none] [0, 1, 2, 80]) (.cond (.t 80) (.seq (.region 0 [.mk4 0 (some 6) (.mv (.c (.i 0))) none,
    .mk4 1 (some 7) (.mv (.c (.i 112))) none] [6, 7]) (.ret)) (.skip))
def c14_7 : AC :=
  .seq (.region 0 [.mk4 0 (some 58) (.mv (.t 0)) none,
    .mk4 1 (some 59) (.nilck (.t 58)) none,
    .mk4 2 (some 60) (.faddr 288 (.t 59)) none,
    .mk4 3 (some 61) (.load1 (.t 60)) none,
    .mk4 4 (some 62) (.mv (.t 1)) none,
    .mk4 5 (some 63) (.ixaS 1 (.t 61) (.t 62)) none,
    .mk4 6 (some 64) (.load1 (.t 63)) none,
    .mk4 7 (some 65) (.nilck (.t 64)) none,
    .mk4 8 (some 66) (.faddr 16 (.t 65)) none,
    .mk4 9 (some 67) (.load1 (.t 66)) none,
    .mk4 10 (some 68) (.lenL (.t 67)) none,
    .mk4 11 (some 69) (.mv (.t 0)) none,
    .mk4 12 (some 70) (.nilck (.t 69)) none,
    .mk4 13 (some 71) (.faddr 288 (.t 70)) none,
    .mk4 14 (some 72) (.load1 (.t 71)) none,
    .mk4 15 (some 73) (.mv (.t 1)) none,
    .mk4 16 (some 74) (.ixaS 1 (.t 72) (.t 73)) none,
    .mk4 17 (some 75) (.load1 (.t 74)) none,
    .mk4 18 (some 76) (.nilck (.t 75)) none,
    .mk4 19 (some 77) (.faddr 15 (.t 76)) none,
    .mk4 20 (some 78) (.load1 (.t 77)) none,
    .mk4 21 (some 79) (.bin .geq (.t 68) (.t 78)) none,
    .mk4 22 (some 57) (.mv (.t 79)) none] [0, 1, 2, 57]) (.cond (.t 57) (.seq (.region 0 [.mk4 0 (some 6) (.mv (.c (.i 0))) none,
    .mk4 1 (some 7) (.mv (.c (.i 113))) none] [6, 7]) (.ret)) (c14_6))
def c14_8 : AC :=
  .seq (.region 0 [.mk4 0 (some 54) (.mv (.t 2)) none,
    .mk4 1 (some 55) (.call 42 [(.t 54)]) none,
    .mk4 2 (some 56) (.un .not (.t 55)) none,
    .mk4 3 (some 53) (.mv (.t 56)) none] [0, 1, 2, 53]) (.cond (.t 53) (.seq (.region 0 [.mk4 0 (some 6) (.mv (.c (.i 0))) none,
    .mk4 1 (some 7) (.mv (.c (.i 2))) none] [6, 7]) (.ret)) (c14_7))
def c14_9 : AC :=
  .seq (.region 0 [.mk4 0 (some 14) (.mv (.t 1)) none,
    .mk4 1 (some 15) (.bin .lss (.t 14) (.c (.i 0))) none,
    .mk4 2 (some 16) (.mv (.t 15)) none,
    .mk4 3 (some 17) (.mv (.t 1)) (some (16, false)),
    .mk4 4 (some 18) (.mv (.t 0)) (some (16, false)),
    .mk4 5 (some 19) (.nilck (.t 18)) (some (16, false)),
    .mk4 6 (some 20) (.faddr 288 (.t 19)) (some (16, false)),
    .mk4 7 (some 21) (.load1 (.t 20)) (some (16, false)),
    .mk4 8 (some 22) (.lenL (.t 21)) (some (16, false)),
    .mk4 9 (some 23) (.bin .geq (.t 17) (.t 22)) (some (16, false)),
    .mk4 10 (some 24) (.pick (.t 16) (.c (.bool true)) (.t 23)) none,
    .mk4 11 (some 25) (.mv (.t 24)) none,
    .mk4 12 (some 26) (.mv (.t 0)) (some (25, false)),
    .mk4 13 (some 27) (.nilck (.t 26)) (some (25, false)),
    .mk4 14 (some 28) (.faddr 288 (.t 27)) (some (25, false)),
    .mk4 15 (some 29) (.load1 (.t 28)) (some (25, false)),
    .mk4 16 (some 30) (.mv (.t 1)) (some (25, false)),
    .mk4 17 (some 31) (.ixaS 1 (.t 29) (.t 30)) (some (25, false)),
    .mk4 18 (some 32) (.load1 (.t 31)) (some (25, false)),
    .mk4 19 (some 33) (.nilck (.t 32)) (some (25, false)),
    .mk4 20 (some 34) (.faddr 15 (.t 33)) (some (25, false)),
    .mk4 21 (some 35) (.load1 (.t 34)) (some (25, false)),
    .mk4 22 (some 36) (.bin .eql (.t 35) (.c (.i 0))) (some (25, false)),
    .mk4 23 (some 37) (.pick (.t 25) (.c (.bool true)) (.t 36)) none,
    .mk4 24 (some 38) (.mv (.t 37)) none,
    .mk4 25 (some 39) (.mv (.t 0)) (some (38, false)),
    .mk4 26 (some 40) (.nilck (.t 39)) (some (38, false)),
    .mk4 27 (some 41) (.faddr 288 (.t 40)) (some (38, false)),
    .mk4 28 (some 42) (.load1 (.t 41)) (some (38, false)),
    .mk4 29 (some 43) (.mv (.t 1)) (some (38, false)),
    .mk4 30 (some 44) (.ixaS 1 (.t 42) (.t 43)) (some (38, false)),
    .mk4 31 (some 45) (.load1 (.t 44)) (some (38, false)),
    .mk4 32 (some 46) (.nilck (.t 45)) (some (38, false)),
    .mk4 33 (some 47) (.faddr 0 (.t 46)) (some (38, false)),
    .mk4 34 (some 48) (.ixaA 2 7 (.t 47) (.c (.i 0))) (some (38, false)),
    .mk4 35 (some 49) (.faddr 0 (.t 48)) (some (38, false)),
    .mk4 36 (some 50) (.load1 (.t 49)) (some (38, false)),
    .mk4 37 (some 51) (.bin .neq (.t 50) (.c (.i 1))) (some (38, false)),
    .mk4 38 (some 52) (.pick (.t 38) (.c (.bool true)) (.t 51)) none,
    .mk4 39 (some 13) (.mv (.t 52)) none] [0, 1, 2, 13]) (.cond (.t 13) (.seq (.region 0 [.mk4 0 (some 6) (.mv (.c (.i 0))) none,
    .mk4 1 (some 7) (.mv (.c (.i 116))) none] [6, 7]) (.ret)) (c14_8))
def c14_10 : AC :=
  .seq (.block 0 (.seq (.region 0 [.mk4 0 (some 11) (.mv (.t 0)) none,
    .mk4 1 (some 12) (.call 41 [(.t 11)]) none,
    .mk4 2 (some 10) (.mv (.t 12)) none] [0, 1, 2, 10]) (.cond (.t 10) (.seq (.region 0 [.mk4 0 (some 6) (.mv (.c (.i 0))) none,
    .mk4 1 (some 7) (.mv (.c (.i 1))) none] [6, 7]) (.ret)) (c14_9)))) (.seq (.region 0 [.mk4 0 (some 87) (.mv (.t 2)) none,
    .mk4 1 (some 88) (.call 30 [(.t 87)]) none,
    .mk4 2 (some 8) (.mv (.t 88)) none] [0, 1, 8]) (c14_5))
def c14 : AFn := ⟨3, 143, [.tmp 6, .tmp 7],
  (.seq (.region 0 [.mk4 0 (some 6) (.mv (.c (.i 0))) none,
    .mk4 1 (some 7) (.mv (.c (.i 0))) none] [0, 1, 2]) (c14_10))⟩
def c15_0 : AC :=
  .seq (.region 0 [.mk4 0 (some 70) (.load1 (.t 2)) none,
    .mk4 1 (some 71) (.mv (.t 9)) none,
    .mk4 2 (some 72) (.load1 (.t 5)) none,
    .mk4 3 (some 73) (.build [.bool false, .i 0, .i 0] [(0, 1, (.c (.bool true))), (1, 1, (.t 72)), (2, 1, (.c (.i 0)))]) none,
    .mk4 4 (some 74) (.nilck (.t 70)) none,
    .mk4 5 (some 75) (.faddr 0 (.t 74)) none,
    .mk4 6 (some 76) (.ixaA 96 3 (.t 75) (.t 71)) none,
    .mk4 7 none (.store 3 (.t 76) (.t 73)) none] [4, 5, 6, 9]) (.seq (.region 0 [.mk4 0 (some 77) (.mv (.t 9)) none,
    .mk4 1 (some 78) (.load1 (.t 5)) none,
    ⟨2, none, .store 1 (.t 4) (.t 77), none, none, [(78, .load1 (.t 5), none)]⟩,
    .mk4 3 none (.store 1 (.t 5) (.t 78)) none,
    .mk4 4 none (.store 1 (.t 6) (.c (.i 0))) none] []) (.ret))
def c15_1 : AC :=
  .seq (.region 0 [.mk4 0 (some 59) (.mv (.t 10)) none,
    .mk4 1 (some 60) (.mv (.t 10)) none,
    .mk4 2 (some 61) (.mv (.t 9)) none,
    .mk4 3 (some 62) (.nilck (.t 59)) none,
    .mk4 4 (some 63) (.faddr 0 (.t 62)) none,
    .mk4 5 (some 64) (.ixaA 2 7 (.t 63) (.c (.i 0))) none,
    .mk4 6 (some 65) (.faddr 0 (.t 64)) none,
    .mk4 8 (some 66) (.nilck (.t 60)) none,
    .mk4 9 (some 67) (.faddr 0 (.t 66)) none,
    .mk4 7 none (.store 1 (.t 65) (.c (.i 1))) none,
    .mk4 10 (some 68) (.ixaA 2 7 (.t 67) (.c (.i 0))) none,
    .mk4 11 (some 69) (.faddr 1 (.t 68)) none,
    .mk4 12 none (.store 1 (.t 69) (.t 61)) none] [2, 4, 5, 6, 9]) (c15_0)
def c15_2 : AC :=
  .seq (.region 0 [.mk4 0 (some 52) (.load1 (.t 2)) none,
    .mk4 1 (some 53) (.nilck (.t 52)) none,
    .mk4 2 (some 54) (.faddr 288 (.t 53)) none,
    .mk4 3 (some 55) (.load1 (.t 54)) none,
    .mk4 4 (some 56) (.load1 (.t 5)) none,
    .mk4 5 (some 57) (.ixaS 1 (.t 55) (.t 56)) none,
    .mk4 6 (some 58) (.load1 (.t 57)) none,
    .mk4 7 (some 10) (.mv (.t 58)) none] [2, 4, 5, 6, 9, 10]) (c15_1)
def c15_3 : AC :=
  .seq (.region 0 [.mk4 0 (some 44) (.load1 (.t 8)) none,
    .mk4 1 (some 45) (.load1 (.t 8)) none,
    .mk4 2 (some 46) (.nilck (.t 45)) none,
    .mk4 3 (some 47) (.faddr 16 (.t 46)) none,
    .mk4 4 (some 48) (.load1 (.t 47)) none,
    .mk4 5 (some 49) (.slice 1 (.t 48) (some (.c (.i 1))) none none) none,
    .mk4 6 (some 50) (.nilck (.t 44)) none,
    .mk4 7 (some 51) (.faddr 16 (.t 50)) none,
    .mk4 8 none (.store 1 (.t 51) (.t 49)) none] [2, 4, 5, 6, 9]) (c15_2)
def c15_4 : AC :=
  .seq (.region 0 [.mk4 0 (some 38) (.load1 (.t 8)) none,
    .mk4 1 (some 39) (.nilck (.t 38)) none,
    .mk4 2 (some 40) (.faddr 16 (.t 39)) none,
    .mk4 3 (some 41) (.load1 (.t 40)) none,
    .mk4 4 (some 42) (.ixaS 1 (.t 41) (.c (.i 0))) none,
    .mk4 5 (some 43) (.load1 (.t 42)) none,
    .mk4 6 none (.store 1 (.t 5) (.t 43)) none] [2, 4, 5, 6, 8, 9]) (c15_3)
def c15_5 : AC :=
  .seq (.region 0 [.mk4 0 (some 29) (.load1 (.t 8)) none,
    .mk4 1 (some 30) (.nilck (.t 29)) none,
    .mk4 2 (some 31) (.faddr 16 (.t 30)) none,
    .mk4 3 (some 32) (.load1 (.t 31)) none,
    .mk4 4 (some 33) (.lenL (.t 32)) none,
    .mk4 5 (some 34) (.bin .eql (.t 33) (.c (.i 0))) none,
    .mk4 6 (some 28) (.mv (.t 34)) none] [2, 4, 5, 6, 8, 28]) (.cond (.t 28) (.seq (.region 0 [.mk4 0 none (.store 1 (.t 4) (.c (.i 0))) none,
    .mk4 1 none (.store 1 (.t 5) (.c (.i 0))) none,
    .mk4 2 none (.store 1 (.t 6) (.c (.i 113))) none] [4, 5, 6]) (.ret)) (.skip))
def c15_6 : AC :=
  .seq (.region 0 [.mk4 0 (some 23) (.load1 (.t 8)) none,
    .mk4 1 (some 24) (.nilck (.t 23)) none,
    .mk4 2 (some 25) (.faddr 15 (.t 24)) none,
    .mk4 3 (some 26) (.load1 (.t 25)) none,
    .mk4 4 (some 27) (.bin .eql (.t 26) (.c (.i 0))) none,
    .mk4 5 (some 22) (.mv (.t 27)) none] [2, 4, 5, 6, 8, 22]) (.cond (.t 22) (.seq (.region 0 [.mk4 0 none (.store 1 (.t 4) (.c (.i 0))) none,
    .mk4 1 none (.store 1 (.t 5) (.c (.i 0))) none,
    .mk4 2 none (.store 1 (.t 6) (.c (.i 111))) none] [4, 5, 6]) (.ret)) (c15_5))
def c15_7 : AC :=
  .cond (.t 18) (.seq (.region 0 [.mk4 0 (some 21) (.load1 (.t 6)) none,
    ⟨1, none, .store 1 (.t 4) (.c (.i 0)), none, none, [(21, .load1 (.t 6), none)]⟩,
    ⟨2, none, .store 1 (.t 5) (.c (.i 0)), none, none, [(21, .load1 (.t 6), none)]⟩,
    .mk4 3 none (.store 1 (.t 6) (.t 21)) none] [4, 5, 6]) (.ret)) (c15_6)
def c15_8 : AC :=
  .seq (.seq (.region 0 [.mk4 0 (some 35) (.load1 (.t 2)) none,
    .mk4 1 (some 36) (.call 44 [(.t 35)]) none] [2, 4, 5, 6, 8, 36]) (.block 1 (.rangeFunc (.t 36) [37] [2, 4, 5, 6, 8] (.region 0 [.mk4 0 (some 9) (.mv (.t 37)) none] [2, 4, 5, 6, 8, 9]) (.block 2 (c15_4))))) (.seq (.region 0 [.mk4 0 none (.store 1 (.t 4) (.c (.i 0))) none,
    .mk4 1 none (.store 1 (.t 5) (.c (.i 0))) none,
    .mk4 2 none (.store 1 (.t 6) (.c (.i 112))) none] [4, 5, 6]) (.ret))
def c15_9 : AC :=
  .seq (.region 0 [.mk4 0 (some 12) (.load1 (.t 2)) none,
    .mk4 1 (some 13) (.mv (.t 1)) none,
    .mk4 2 (some 14) (.call 34 [(.t 12), (.t 13)]) none,
    .mk4 3 (some 11) (.mv (.t 14)) none,
    .mk4 4 (some 15) (.extract (.t 11) 0) none,
    .mk4 5 (some 16) (.extract (.t 11) 1) none,
    .mk4 6 (some 17) (.extract (.t 11) 2) none,
    .mk4 7 (some 7) (.alloc 3 [.bool false, .i 0, .i 0]) none,
    .mk4 8 (some 8) (.alloc 1 [.ptr none]) none,
    .mk4 9 none (.store 3 (.t 7) (.t 15)) none,
    .mk4 10 none (.store 1 (.t 8) (.t 16)) none,
    .mk4 11 none (.store 1 (.t 6) (.t 17)) none] [2, 4, 5, 6, 8]) (.seq (.block 0 (.seq (.region 0 [.mk4 0 (some 19) (.load1 (.t 6)) none,
    .mk4 1 (some 20) (.bin .neq (.t 19) (.c (.i 0))) none,
    .mk4 2 (some 18) (.mv (.t 20)) none] [2, 4, 5, 6, 8, 18]) (c15_7))) (c15_8))
def c15 : AFn := ⟨2, 79, [.cell1 4, .cell1 5, .cell1 6],
  (.seq (.region 0 [.mk4 0 (some 2) (.box 1 (.t 0)) none,
    .mk4 1 (some 4) (.alloc 1 [.i 0]) none,
    .mk4 2 (some 5) (.alloc 1 [.i 0]) none,
    .mk4 3 (some 6) (.alloc 1 [.i 0]) none] [1, 2, 4, 5, 6]) (c15_9))⟩
def c16_0 : AC :=
  .seq (.region 0 [.mk4 0 (some 19) (.mv (.t 7)) none,
    .mk4 1 (some 20) (.ixaS 1 (.t 19) (.c (.i 0))) none,
    .mk4 2 (some 21) (.load1 (.t 20)) none,
    .mk4 3 (some 22) (.mv (.t 7)) none,
    .mk4 4 (some 23) (.ixaS 1 (.t 22) (.c (.i 1))) none,
    .mk4 5 (some 24) (.load1 (.t 23)) none,
    .mk4 6 (some 4) (.mv (.t 21)) none,
    .mk4 7 (some 5) (.mv (.t 24)) none,
    .mk4 8 (some 6) (.mv (.c (.i 0))) none] [4, 5, 6]) (.ret)
def c16_1 : AC :=
  .seq (.seq (.region 0 [.mk4 0 (some 16) (.mv (.t 6)) none,
    .mk4 1 (some 17) (.bin .neq (.t 16) (.c (.i 0))) none] [6, 7, 17]) (.cond (.t 17) (.seq (.region 0 [.mk4 0 (some 18) (.mv (.t 6)) none,
    .mk4 1 (some 4) (.mv (.c (.i 0))) none,
    .mk4 2 (some 5) (.mv (.c (.i 0))) none,
    .mk4 3 (some 6) (.mv (.t 18)) none] [4, 5, 6]) (.ret)) (.skip))) (c16_0)
def c16_2 : AC :=
  .seq (.region 0 [.mk4 0 (some 9) (.mv (.t 0)) none,
    .mk4 1 (some 10) (.mv (.t 1)) none,
    .mk4 2 (some 11) (.mv (.t 1)) none,
    .mk4 3 (some 12) (.call 30 [(.t 11)]) none,
    .mk4 4 (some 13) (.call 31 [(.t 9), (.t 10), (.c (.i 2)), (.t 12)]) none,
    .mk4 5 (some 8) (.mv (.t 13)) none,
    .mk4 6 (some 14) (.extract (.t 8) 0) none,
    .mk4 7 (some 15) (.extract (.t 8) 1) none,
    .mk4 8 (some 7) (.mv (.t 14)) none,
    .mk4 9 (some 6) (.mv (.t 15)) none] [6, 7]) (c16_1)
def c16 : AFn := ⟨2, 25, [.tmp 4, .tmp 5, .tmp 6],
  (.seq (.region 0 [.mk4 0 (some 4) (.mv (.c (.i 0))) none,
    .mk4 1 (some 5) (.mv (.c (.i 0))) none,
    .mk4 2 (some 6) (.mv (.c (.i 0))) none] [0, 1]) (c16_2))⟩
def c17_0 : AC :=
  .seq (.region 0 [.mk4 0 (some 36) (.faddr 1 (.t 7)) none,
    .mk4 1 (some 37) (.load1 (.t 36)) none,
    .mk4 2 (some 38) (.faddr 1 (.t 10)) none,
    .mk4 3 (some 39) (.load1 (.t 38)) none,
    .mk4 4 (some 40) (.bin .neq (.t 37) (.t 39)) none,
    .mk4 5 (some 41) (.mv (.t 40)) none,
    .mk4 6 (some 42) (.faddr 2 (.t 7)) (some (41, false)),
    .mk4 7 (some 43) (.load1 (.t 42)) (some (41, false)),
    .mk4 8 (some 44) (.faddr 2 (.t 10)) (some (41, false)),
    .mk4 9 (some 45) (.load1 (.t 44)) (some (41, false)),
    .mk4 10 (some 46) (.bin .eql (.t 43) (.t 45)) (some (41, false)),
    .mk4 11 (some 47) (.pick (.t 41) (.c (.bool true)) (.t 46)) none,
    .mk4 12 (some 48) (.mv (.t 47)) none,
    .mk4 13 (some 49) (.mv (.t 8)) (some (48, false)),
    .mk4 14 (some 50) (.nilck (.t 49)) (some (48, false)),
    .mk4 15 (some 51) (.faddr 0 (.t 50)) (some (48, false)),
    .mk4 16 (some 52) (.ixaA 2 7 (.t 51) (.c (.i 0))) (some (48, false)),
    .mk4 17 (some 53) (.faddr 2 (.t 52)) (some (48, false)),
    .mk4 18 (some 54) (.load1 (.t 53)) (some (48, false)),
    .mk4 19 (some 55) (.eq .ptr false (.t 54) (.c (.ptr none))) (some (48, false)),
    .mk4 20 (some 56) (.pick (.t 48) (.c (.bool true)) (.t 55)) none,
    .mk4 21 (some 57) (.mv (.t 56)) none,
    .mk4 22 (some 58) (.mv (.t 8)) (some (57, false)),
    .mk4 23 (some 59) (.nilck (.t 58)) (some (57, false)),
    .mk4 24 (some 60) (.faddr 0 (.t 59)) (some (57, false)),
    .mk4 25 (some 61) (.ixaA 2 7 (.t 60) (.c (.i 1))) (some (57, false)),
    .mk4 26 (some 62) (.faddr 2 (.t 61)) (some (57, false)),
    .mk4 27 (some 63) (.load1 (.t 62)) (some (57, false)),
    .mk4 28 (some 64) (.eq .ptr false (.t 63) (.c (.ptr none))) (some (57, false)),
    .mk4 29 (some 65) (.pick (.t 57) (.c (.bool true)) (.t 64)) none,
    .mk4 30 (some 35) (.mv (.t 65)) none] [0, 7, 35]) (.cond (.t 35) (.seq (.region 0 [.mk4 0 (some 6) (.mv (.c (.i 111))) none] [6]) (.ret)) (.skip))
def c17_1 : AC :=
  .seq (.region 0 [.mk4 0 (some 32) (.mv (.t 12)) none,
    .mk4 1 (some 33) (.bin .neq (.t 32) (.c (.i 0))) none,
    .mk4 2 (some 31) (.mv (.t 33)) none] [0, 7, 8, 10, 12, 31]) (.cond (.t 31) (.seq (.region 0 [.mk4 0 (some 34) (.mv (.t 12)) none,
    .mk4 1 (some 6) (.mv (.t 34)) none] [6]) (.ret)) (c17_0))
def c17_2 : AC :=
  .seq (.region 0 [.mk4 0 (some 28) (.mv (.t 9)) none,
    .mk4 1 (some 29) (.bin .neq (.t 28) (.c (.i 0))) none,
    .mk4 2 (some 27) (.mv (.t 29)) none] [0, 7, 8, 9, 10, 12, 27]) (.cond (.t 27) (.seq (.region 0 [.mk4 0 (some 30) (.mv (.t 9)) none,
    .mk4 1 (some 6) (.mv (.t 30)) none] [6]) (.ret)) (c17_1))
def c17_3 : AC :=
  .seq (.region 0 [.mk4 0 (some 66) (.mv (.t 0)) none,
    .mk4 1 (some 67) (.loadN 3 (.t 7)) none,
    .mk4 2 (some 68) (.nilck (.t 66)) none,
    .mk4 3 (some 69) (.faddr 291 (.t 68)) none,
    .mk4 4 none (.store 3 (.t 69) (.t 67)) none] [0]) (.seq (.region 0 [.mk4 0 (some 70) (.mv (.t 0)) none,
    .mk4 1 (some 71) (.call 45 [(.t 70)]) none] []) (.seq (.region 0 [.mk4 0 (some 6) (.mv (.c (.i 0))) none] [6]) (.ret)))
def c17_4 : AC :=
  .seq (.region 0 [.mk4 0 (some 21) (.mv (.t 0)) none,
    .mk4 1 (some 22) (.mv (.t 2)) none,
    .mk4 2 (some 23) (.call 34 [(.t 21), (.t 22)]) none,
    .mk4 3 (some 20) (.mv (.t 23)) none,
    .mk4 4 (some 24) (.extract (.t 20) 0) none,
    .mk4 5 (some 25) (.extract (.t 20) 1) none,
    .mk4 6 (some 26) (.extract (.t 20) 2) none,
    .mk4 7 (some 10) (.alloc 3 [.bool false, .i 0, .i 0]) none,
    .mk4 8 none (.store 3 (.t 10) (.t 24)) none,
    .mk4 9 (some 11) (.mv (.t 25)) none,
    .mk4 10 (some 12) (.mv (.t 26)) none] [0, 7, 8, 9, 10, 12]) (.seq (.block 0 (c17_2)) (c17_3))
def c17_5 : AC :=
  .seq (.region 0 [.mk4 0 (some 14) (.mv (.t 0)) none,
    .mk4 1 (some 15) (.mv (.t 1)) none,
    .mk4 2 (some 16) (.call 34 [(.t 14), (.t 15)]) none,
    .mk4 3 (some 13) (.mv (.t 16)) none,
    .mk4 4 (some 17) (.extract (.t 13) 0) none,
    .mk4 5 (some 18) (.extract (.t 13) 1) none,
    .mk4 6 (some 19) (.extract (.t 13) 2) none,
    .mk4 7 (some 7) (.alloc 3 [.bool false, .i 0, .i 0]) none,
    .mk4 8 none (.store 3 (.t 7) (.t 17)) none,
    .mk4 9 (some 8) (.mv (.t 18)) none,
    .mk4 10 (some 9) (.mv (.t 19)) none] [0, 2, 7, 8, 9]) (c17_4)
def c17 : AFn := ⟨3, 72, [.tmp 6],
  (.seq (.region 0 [.mk4 0 (some 6) (.mv (.c (.i 0))) none] [0, 1, 2]) (c17_5))⟩
def c18_0 : AC :=
  .seq (.region 0 [.mk4 0 (some 10) (.mv (.t 0)) none,
    .mk4 1 (some 11) (.nilck (.t 10)) none,
    .mk4 2 (some 12) (.faddr 289 (.t 11)) none,
    .mk4 3 (some 13) (.load1 (.t 12)) none,
    .mk4 4 (some 14) (.mv (.t 1)) none,
    .mk4 5 (some 15) (.mv (.t 2)) none,
    .mk4 6 (some 16) (.call 46 [(.t 13), (.t 14), (.t 15)]) none,
    .mk4 7 (some 7) (.mv (.t 16)) none] [0, 7]) (.seq (.region 0 [.mk4 0 (some 17) (.mv (.t 0)) none,
    .mk4 1 (some 18) (.call 45 [(.t 17)]) none] [7]) (.seq (.region 0 [.mk4 0 (some 19) (.mv (.t 7)) none,
    .mk4 1 (some 6) (.mv (.t 19)) none] [6]) (.ret)))
def c18 : AFn := ⟨3, 20, [.tmp 6],
  (.seq (.region 0 [.mk4 0 (some 6) (.mv (.c (.i 0))) none] [0, 1, 2]) (.seq (.seq (.region 0 [.mk4 0 (some 8) (.mv (.t 0)) none,
    .mk4 1 (some 9) (.call 41 [(.t 8)]) none] [0, 1, 2, 9]) (.cond (.t 9) (.seq (.region 0 [.mk4 0 (some 6) (.mv (.c (.i 1))) none] [6]) (.ret)) (.skip))) (c18_0)))⟩
def c19_0 : AC :=
  .seq (.region 0 [.mk4 0 (some 8) (.mv (.t 0)) none,
    .mk4 1 (some 9) (.nilck (.t 8)) none,
    .mk4 2 (some 10) (.faddr 289 (.t 9)) none,
    .mk4 3 (some 11) (.load1 (.t 10)) none,
    .mk4 4 (some 12) (.mv (.t 1)) none,
    .mk4 5 (some 13) (.call 47 [(.t 11), (.t 12)]) none,
    .mk4 6 (some 5) (.mv (.t 13)) none] [0, 5]) (.seq (.region 0 [.mk4 0 (some 14) (.mv (.t 0)) none,
    .mk4 1 (some 15) (.call 45 [(.t 14)]) none] [5]) (.seq (.region 0 [.mk4 0 (some 16) (.mv (.t 5)) none,
    .mk4 1 (some 4) (.mv (.t 16)) none] [4]) (.ret)))
def c19 : AFn := ⟨2, 17, [.tmp 4],
  (.seq (.region 0 [.mk4 0 (some 4) (.mv (.c (.i 0))) none] [0, 1]) (.seq (.seq (.region 0 [.mk4 0 (some 6) (.mv (.t 0)) none,
    .mk4 1 (some 7) (.call 41 [(.t 6)]) none] [0, 1, 7]) (.cond (.t 7) (.seq (.region 0 [.mk4 0 (some 4) (.mv (.c (.i 1))) none] [4]) (.ret)) (.skip))) (c19_0)))⟩
def c20_0 : AC :=
  .seq (.region 0 [.mk4 0 (some 6) (.mv (.t 0)) none,
    .mk4 1 (some 7) (.nilck (.t 6)) none,
    .mk4 2 (some 8) (.faddr 289 (.t 7)) none,
    .mk4 3 (some 9) (.load1 (.t 8)) none,
    .mk4 4 (some 10) (.call 48 [(.t 9)]) none,
    .mk4 5 (some 3) (.mv (.t 10)) none] [0, 3]) (.seq (.region 0 [.mk4 0 (some 11) (.mv (.t 0)) none,
    .mk4 1 (some 12) (.call 45 [(.t 11)]) none] [3]) (.seq (.region 0 [.mk4 0 (some 13) (.mv (.t 3)) none,
    .mk4 1 (some 2) (.mv (.t 13)) none] [2]) (.ret)))
def c20 : AFn := ⟨1, 14, [.tmp 2],
  (.seq (.region 0 [.mk4 0 (some 2) (.mv (.c (.nils))) none] [0]) (.seq (.seq (.region 0 [.mk4 0 (some 4) (.mv (.t 0)) none,
    .mk4 1 (some 5) (.call 41 [(.t 4)]) none] [0, 5]) (.cond (.t 5) (.seq (.region 0 [.mk4 0 (some 2) (.mv (.c (.nils))) none] [2]) (.ret)) (.skip))) (c20_0)))⟩
def c21_0 : AC :=
  .seq (.region 0 [.mk4 0 (some 31) (.mv (.t 8)) none,
    .mk4 1 (some 32) (.ixaS 1 (.t 31) (.c (.i 0))) none,
    .mk4 2 (some 33) (.load1 (.t 32)) none,
    .mk4 3 (some 34) (.mv (.t 8)) none,
    .mk4 4 (some 35) (.ixaS 1 (.t 34) (.c (.i 1))) none,
    .mk4 5 (some 36) (.load1 (.t 35)) none,
    .mk4 6 (some 4) (.mv (.t 33)) none,
    .mk4 7 (some 5) (.mv (.t 36)) none,
    .mk4 8 (some 6) (.mv (.c (.i 0))) none] [4, 5, 6]) (.ret)
def c21_1 : AC :=
  .seq (.seq (.region 0 [.mk4 0 (some 28) (.mv (.t 6)) none,
    .mk4 1 (some 29) (.bin .neq (.t 28) (.c (.i 0))) none] [6, 8, 29]) (.cond (.t 29) (.seq (.region 0 [.mk4 0 (some 30) (.mv (.t 6)) none,
    .mk4 1 (some 4) (.mv (.c (.i 0))) none,
    .mk4 2 (some 5) (.mv (.c (.i 0))) none,
    .mk4 3 (some 6) (.mv (.t 30)) none] [4, 5, 6]) (.ret)) (.skip))) (c21_0)
def c21_2 : AC :=
  .seq (.region 0 [.mk4 0 (some 22) (.mv (.t 0)) none,
    .mk4 1 (some 23) (.mv (.t 1)) none,
    .mk4 2 (some 24) (.mv (.t 7)) none,
    .mk4 3 (some 25) (.call 31 [(.t 22), (.t 23), (.c (.i 2)), (.t 24)]) none,
    .mk4 4 (some 21) (.mv (.t 25)) none,
    .mk4 5 (some 26) (.extract (.t 21) 0) none,
    .mk4 6 (some 27) (.extract (.t 21) 1) none,
    .mk4 7 (some 8) (.mv (.t 26)) none,
    .mk4 8 (some 6) (.mv (.t 27)) none] [6, 8]) (c21_1)
def c21_3 : AC :=
  .seq (.region 0 [.mk4 0 (some 11) (.mv (.t 7)) none,
    .mk4 1 (some 12) (.mv (.t 7)) none,
    .mk4 2 (some 13) (.nilck (.t 11)) none,
    .mk4 3 (some 14) (.faddr 0 (.t 13)) none,
    .mk4 4 (some 15) (.ixaA 2 7 (.t 14) (.c (.i 0))) none,
    .mk4 5 (some 16) (.faddr 3 (.t 15)) none,
    .mk4 7 (some 17) (.nilck (.t 12)) none,
    .mk4 8 (some 18) (.faddr 0 (.t 17)) none,
    .mk4 6 none (.store 1 (.t 16) (.c (.bool false))) none,
    .mk4 9 (some 19) (.ixaA 2 7 (.t 18) (.c (.i 1))) none,
    .mk4 10 (some 20) (.faddr 2 (.t 19)) none,
    .mk4 11 none (.store 1 (.t 20) (.c (.ptr none))) none] [0, 1, 7]) (c21_2)
def c21_4 : AC :=
  .seq (.region 0 [.mk4 0 (some 4) (.mv (.c (.i 0))) none,
    .mk4 1 (some 5) (.mv (.c (.i 0))) none,
    .mk4 2 (some 6) (.mv (.c (.i 0))) none] [0, 1]) (.seq (.region 0 [.mk4 0 (some 9) (.mv (.t 1)) none,
    .mk4 1 (some 10) (.call 30 [(.t 9)]) none,
    .mk4 2 (some 7) (.mv (.t 10)) none] [0, 1, 7]) (c21_3))
def c21 : AFn := ⟨2, 37, [.tmp 4, .tmp 5, .tmp 6],
  (c21_4)⟩
def c22_0 : AC :=
  .region 0 [.mk4 0 (some 7) (.mv (.t 0)) none,
    .mk4 1 (some 8) (.nilck (.t 7)) none,
    .mk4 2 (some 9) (.faddr 290 (.t 8)) none,
    .mk4 3 (some 10) (.load1 (.t 9)) none,
    .mk4 4 (some 11) (.mv (.t 1)) none,
    .mk4 5 (some 12) (.mv (.t 0)) none,
    .mk4 6 (some 13) (.nilck (.t 12)) none,
    .mk4 7 (some 14) (.faddr 290 (.t 13)) none,
    .mk4 8 (some 15) (.load1 (.t 14)) none,
    .mk4 9 (some 16) (.bin .sub (.c (.int .u64 18446744073709551615)) (.t 15)) none,
    .mk4 10 (some 17) (.minI [(.t 11), (.t 16)]) none,
    .mk4 11 (some 18) (.bin .add (.t 10) (.t 17)) none,
    .mk4 12 (some 19) (.nilck (.t 7)) none,
    .mk4 13 (some 20) (.faddr 290 (.t 19)) none,
    .mk4 14 none (.store 1 (.t 20) (.t 18)) none] []
def c22 : AFn := ⟨2, 21, [],
  (.seq (.region 0 [.mk4 0 (some 4) (.mv (.t 0)) none,
    .mk4 1 (some 5) (.call 41 [(.t 4)]) none,
    .mk4 2 (some 6) (.un .not (.t 5)) none] [0, 1, 6]) (.cond (.t 6) (c22_0) (.skip)))⟩
def c23_0 : AC :=
  .region 0 [.mk4 0 (some 39) (.mv (.t 0)) none,
    .mk4 1 (some 40) (.nilck (.t 39)) none,
    .mk4 2 (some 41) (.faddr 288 (.t 40)) none,
    .mk4 3 (some 42) (.load1 (.t 41)) none,
    .mk4 4 (some 43) (.mv (.t 9)) none,
    .mk4 5 (some 44) (.ixaS 1 (.t 42) (.t 43)) none,
    .mk4 6 (some 45) (.load1 (.t 44)) none,
    .mk4 7 (some 46) (.call 40 [(.t 45), (.c (.i 0))]) none] [0, 6, 33, 34, 35]
def c23_1 : AC :=
  .seq (.block 1 (.seq (.region 0 [.mk4 0 (some 37) (.ixaS 1 (.t 33) (.t 35)) none,
    .mk4 1 (some 38) (.load1 (.t 37)) none,
    .mk4 2 (some 9) (.mv (.t 38)) none] [0, 6, 9, 33, 34, 35]) (c23_0))) (.region 0 [.mk4 0 (some 47) (.bin .add (.t 35) (.c (.i 1))) none,
    .mk4 1 (some 35) (.mv (.t 47)) none] [0, 6, 33, 34, 35])
def c23_2 : AC :=
  .seq (.seq (.region 0 [.mk4 0 (some 30) (.mv (.t 6)) none,
    .mk4 1 (some 31) (.nilck (.t 30)) none,
    .mk4 2 (some 32) (.faddr 16 (.t 31)) none,
    .mk4 3 (some 33) (.load1 (.t 32)) none,
    .mk4 4 (some 34) (.lenL (.t 33)) none,
    .mk4 5 (some 35) (.mv (.c (.i 0))) none] [0, 6, 33, 34, 35]) (.block 0 (.loop [0, 6, 33, 34, 35] (.seq (.region 0 [.mk4 0 (some 36) (.bin .lss (.t 35) (.t 34)) none] [0, 6, 33, 34, 35, 36]) (.seq (.cond (.t 36) (.skip) (.exit 0)) (c23_1)))))) (.seq (.region 0 [.mk4 0 (some 48) (.mv (.t 6)) none,
    .mk4 1 (some 49) (.nilck (.t 48)) none,
    .mk4 2 (some 50) (.faddr 16 (.t 49)) none,
    .mk4 3 none (.store 1 (.t 50) (.c (.nils))) none] []) (.seq (.region 0 [.mk4 0 (some 4) (.mv (.c (.i 0))) none] [4]) (.ret)))
def c23_3 : AC :=
  .seq (.region 0 [.mk4 0 (some 20) (.mv (.t 0)) none,
    .mk4 1 (some 21) (.mv (.t 1)) none,
    .mk4 2 (some 22) (.build [.bool false, .i 0, .i 0] []) none,
    .mk4 3 (some 23) (.nilck (.t 20)) none,
    .mk4 4 (some 24) (.faddr 0 (.t 23)) none,
    .mk4 5 (some 25) (.ixaA 96 3 (.t 24) (.t 21)) none,
    .mk4 6 none (.store 3 (.t 25) (.t 22)) none] [0, 5, 6]) (.seq (.region 0 [.mk4 0 (some 26) (.mv (.t 6)) none,
    .mk4 1 (some 27) (.faddr 2 (.t 5)) none,
    .mk4 2 (some 28) (.load1 (.t 27)) none,
    .mk4 3 (some 29) (.call 40 [(.t 26), (.t 28)]) none] [0, 6]) (c23_2))
def c23_4 : AC :=
  .seq (.region 0 [.mk4 0 (some 11) (.mv (.t 0)) none,
    .mk4 1 (some 12) (.mv (.t 1)) none,
    .mk4 2 (some 13) (.call 34 [(.t 11), (.t 12)]) none,
    .mk4 3 (some 10) (.mv (.t 13)) none,
    .mk4 4 (some 14) (.extract (.t 10) 0) none,
    .mk4 5 (some 15) (.extract (.t 10) 1) none,
    .mk4 6 (some 16) (.extract (.t 10) 2) none,
    .mk4 7 (some 5) (.alloc 3 [.bool false, .i 0, .i 0]) none,
    .mk4 8 none (.store 3 (.t 5) (.t 14)) none,
    .mk4 9 (some 6) (.mv (.t 15)) none,
    .mk4 10 (some 7) (.mv (.t 16)) none] [0, 1, 5, 6, 7]) (.seq (.seq (.region 0 [.mk4 0 (some 17) (.mv (.t 7)) none,
    .mk4 1 (some 18) (.bin .neq (.t 17) (.c (.i 0))) none] [0, 1, 5, 6, 7, 18]) (.cond (.t 18) (.seq (.region 0 [.mk4 0 (some 19) (.mv (.t 7)) none,
    .mk4 1 (some 4) (.mv (.t 19)) none] [4]) (.ret)) (.skip))) (c23_3))
def c23 : AFn := ⟨2, 51, [.tmp 4],
  (.seq (.region 0 [.mk4 0 (some 4) (.mv (.c (.i 0))) none] [0, 1]) (c23_4))⟩
def c24_0 : AC :=
  .seq (.region 0 [.mk4 0 (some 29) (.mv (.t 5)) none,
    .mk4 1 (some 30) (.mv (.t 7)) none,
    .mk4 2 (some 31) (.nilck (.t 29)) none,
    .mk4 3 (some 32) (.faddr 0 (.t 31)) none,
    .mk4 4 (some 33) (.ixaA 2 7 (.t 32) (.t 30)) none,
    .mk4 5 (some 34) (.faddr 2 (.t 33)) none,
    .mk4 6 (some 35) (.load1 (.t 34)) none,
    .mk4 7 (some 36) (.call 49 [(.t 35)]) none] [5, 7, 26]) (.region 0 [.mk4 0 (some 37) (.mv (.t 5)) none,
    .mk4 1 (some 38) (.mv (.t 7)) none,
    .mk4 2 (some 39) (.call 50 [(.t 37), (.t 38), (.c (.bool true)), (.c (.bool true))]) none] [5, 26])
def c24_1 : AC :=
  .seq (.region 0 [.mk4 0 (some 27) (.bin .lss (.t 26) (.c (.i 2))) none] [5, 26, 27]) (.seq (.cond (.t 27) (.skip) (.exit 0)) (.seq (.block 1 (.seq (.region 0 [.mk4 0 (some 28) (.mv (.t 26)) none,
    .mk4 1 (some 7) (.mv (.t 28)) none] [5, 7, 26]) (c24_0))) (.region 0 [.mk4 0 (some 40) (.bin .add (.t 26) (.c (.i 1))) none,
    .mk4 1 (some 26) (.mv (.t 40)) none] [5, 26])))
def c24_2 : AC :=
  .seq (.region 0 [.mk4 0 (some 23) (.mv (.t 5)) none,
    .mk4 1 (some 24) (.nilck (.t 23)) none,
    .mk4 2 (some 25) (.faddr 14 (.t 24)) none,
    .mk4 3 none (.store 1 (.t 25) (.c (.bool true))) none] [5]) (.seq (.seq (.region 0 [.mk4 0 (some 26) (.mv (.c (.i 0))) none] [5, 26]) (.block 0 (.loop [5, 26] (c24_1)))) (.seq (.region 0 [.mk4 0 (some 4) (.mv (.c (.i 0))) none] [4]) (.ret)))
def c24_3 : AC :=
  .seq (.seq (.region 0 [.mk4 0 (some 14) (.mv (.t 6)) none,
    .mk4 1 (some 15) (.bin .neq (.t 14) (.c (.i 0))) none,
    .mk4 2 (some 16) (.mv (.t 15)) none,
    .mk4 3 (some 17) (.mv (.t 5)) (some (16, false)),
    .mk4 4 (some 18) (.nilck (.t 17)) (some (16, false)),
    .mk4 5 (some 19) (.faddr 14 (.t 18)) (some (16, false)),
    .mk4 6 (some 20) (.load1 (.t 19)) (some (16, false)),
    .mk4 7 (some 21) (.pick (.t 16) (.c (.bool true)) (.t 20)) none] [5, 6, 21]) (.cond (.t 21) (.seq (.region 0 [.mk4 0 (some 22) (.mv (.t 6)) none,
    .mk4 1 (some 4) (.mv (.t 22)) none] [4]) (.ret)) (.skip))) (c24_2)
def c24_4 : AC :=
  .seq (.region 0 [.mk4 0 (some 9) (.mv (.t 0)) none,
    .mk4 1 (some 10) (.mv (.t 1)) none,
    .mk4 2 (some 11) (.call 32 [(.t 9), (.t 10)]) none,
    .mk4 3 (some 8) (.mv (.t 11)) none,
    .mk4 4 (some 12) (.extract (.t 8) 0) none,
    .mk4 5 (some 13) (.extract (.t 8) 1) none,
    .mk4 6 (some 5) (.mv (.t 12)) none,
    .mk4 7 (some 6) (.mv (.t 13)) none] [5, 6]) (c24_3)
def c24 : AFn := ⟨2, 41, [.tmp 4],
  (.seq (.region 0 [.mk4 0 (some 4) (.mv (.c (.i 0))) none] [0, 1]) (c24_4))⟩
def c25_0 : AC :=
  .seq (.seq (.region 0 [.mk4 0 (some 3) (.mv (.t 0)) none,
    .mk4 1 (some 4) (.call 41 [(.t 3)]) none] [0, 4]) (.cond (.t 4) (.seq (.region 0 [.mk4 0 (some 2) (.mv (.c (.int .u64 0))) none] [2]) (.ret)) (.skip))) (.seq (.region 0 [.mk4 0 (some 5) (.mv (.t 0)) none,
    .mk4 1 (some 6) (.nilck (.t 5)) none,
    .mk4 2 (some 7) (.faddr 290 (.t 6)) none,
    .mk4 3 (some 8) (.load1 (.t 7)) none,
    .mk4 4 (some 2) (.mv (.t 8)) none] [2]) (.ret))
def c25 : AFn := ⟨1, 9, [.tmp 2],
  (.seq (.region 0 [.mk4 0 (some 2) (.mv (.c (.int .u64 0))) none] [0]) (c25_0))⟩
def c26_0 : AC :=
  .seq (.region 0 [.mk4 0 (some 17) (.faddr 0 (.t 5)) none,
    .mk4 1 (some 18) (.load1 (.t 17)) none] [3, 4, 12, 13, 18]) (.cond (.t 18) (.region 0 [.mk4 0 (some 19) (.mv (.t 3)) none,
    .mk4 1 (some 20) (.mv (.t 4)) none,
    .mk4 2 (some 21) (.bslice 1 1 [.i 0] [(0, (.t 20))]) none,
    .mk4 3 (some 22) (.append 1 8 (.t 19) (.t 21)) none,
    .mk4 4 (some 3) (.mv (.t 22)) none] [3, 12, 13]) (.skip))
def c26_1 : AC :=
  .seq (.block 1 (.seq (.region 0 [.mk4 0 (some 15) (.mv (.t 13)) none,
    .mk4 1 (some 16) (.ixA 96 3 (some 3) (.t 12) (.t 13)) none,
    .mk4 2 (some 5) (.alloc 3 [.bool false, .i 0, .i 0]) none,
    .mk4 3 (some 4) (.mv (.t 15)) none,
    .mk4 4 none (.store 3 (.t 5) (.t 16)) none] [3, 4, 5, 12, 13]) (c26_0))) (.region 0 [.mk4 0 (some 23) (.bin .add (.t 13) (.c (.i 1))) none,
    .mk4 1 (some 13) (.mv (.t 23)) none] [3, 12, 13])
def c26_2 : AC :=
  .seq (.region 0 [.mk4 0 (some 9) (.mv (.t 0)) none,
    .mk4 1 (some 10) (.nilck (.t 9)) none,
    .mk4 2 (some 11) (.faddr 0 (.t 10)) none,
    .mk4 3 (some 12) (.loadN 288 (.t 11)) none,
    .mk4 4 (some 13) (.mv (.c (.i 0))) none] [3, 12, 13]) (.block 0 (.loop [3, 12, 13] (.seq (.region 0 [.mk4 0 (some 14) (.bin .lss (.t 13) (.c (.i 96))) none] [3, 12, 13, 14]) (.seq (.cond (.t 14) (.skip) (.exit 0)) (c26_1)))))
def c26_3 : AC :=
  .seq (.region 0 [.mk4 0 (some 3) (.mv (.c (.nils))) none] [0, 3]) (.seq (.seq (.region 0 [.mk4 0 (some 6) (.mv (.t 0)) none,
    .mk4 1 (some 7) (.call 41 [(.t 6)]) none,
    .mk4 2 (some 8) (.un .not (.t 7)) none] [0, 3, 8]) (.cond (.t 8) (c26_2) (.skip))) (.seq (.region 0 [.mk4 0 (some 24) (.mv (.t 3)) none,
    .mk4 1 (some 2) (.mv (.t 24)) none] [2]) (.ret)))
def c26 : AFn := ⟨1, 25, [.tmp 2],
  (.seq (.region 0 [.mk4 0 (some 2) (.mv (.c (.nils))) none] [0]) (c26_3))⟩
def c27_0 : AC :=
  .region 1 [.mk4 0 (some 161) (.mv (.t 3)) none,
    .mk4 1 (some 162) (.mv (.t 0)) none,
    .mk4 2 (some 163) (.nilck (.t 162)) none,
    .mk4 3 (some 164) (.faddr 291 (.t 163)) none,
    .mk4 4 (some 165) (.faddr 1 (.t 164)) none,
    .mk4 5 (some 166) (.load1 (.t 165)) none,
    .mk4 9 (some 170) (.mv (.t 0)) none,
    .mk4 10 (some 171) (.nilck (.t 170)) none,
    .mk4 11 (some 172) (.faddr 291 (.t 171)) none,
    .mk4 12 (some 173) (.faddr 2 (.t 172)) none,
    .mk4 13 (some 174) (.load1 (.t 173)) none,
    ⟨6, (some 167), .call 52 [(.t 166)], none, none, [(174, .load1 (.t 173), none)]⟩,
    .mk4 7 (some 168) (.bin .add (.c (.str [110, 111, 116, 105, 99, 101, 32])) (.t 167)) none,
    .mk4 8 (some 169) (.bin .add (.t 168) (.c (.str [32]))) none,
    .mk4 14 (some 175) (.call 52 [(.t 174)]) none,
    .mk4 15 (some 176) (.bin .add (.t 169) (.t 175)) none,
    ⟨16, (some 177), .bslice 1 1 [.str []] [(0, (.t 176))], none, some 0, []⟩,
    .mk4 17 (some 178) (.append 1 16 (.t 161) (.t 177)) none,
    .mk4 18 (some 3) (.mv (.t 178)) none] [3]
def c27_1 : AC :=
  .region 1 [.mk4 0 (some 141) (.mv (.t 3)) none,
    .mk4 1 (some 142) (.mv (.t 12)) none,
    .mk4 5 (some 146) (.mv (.t 0)) none,
    .mk4 6 (some 147) (.nilck (.t 146)) none,
    .mk4 7 (some 148) (.faddr 289 (.t 147)) none,
    .mk4 8 (some 149) (.load1 (.t 148)) none,
    .mk4 9 (some 150) (.mv (.t 12)) none,
    ⟨2, (some 143), .call 52 [(.t 142)], none, none, [(149, .load1 (.t 148), none)]⟩,
    .mk4 3 (some 144) (.bin .add (.c (.str [115, 105, 103, 110, 97, 108, 32])) (.t 143)) none,
    .mk4 4 (some 145) (.bin .add (.t 144) (.c (.str [32]))) none,
    .mk4 10 (some 151) (.call 56 [(.t 149), (.t 150)]) none,
    .mk4 11 (some 152) (.call 52 [(.t 151)]) none,
    .mk4 12 (some 153) (.bin .add (.t 145) (.t 152)) none,
    ⟨13, (some 154), .bslice 1 1 [.str []] [(0, (.t 153))], none, some 0, []⟩,
    .mk4 14 (some 155) (.append 1 16 (.t 141) (.t 154)) none,
    .mk4 15 (some 3) (.mv (.t 155)) none] [0, 3, 12]
def c27_2 : AC :=
  .seq (.region 0 [.mk4 0 (some 135) (.mv (.t 0)) none,
    .mk4 1 (some 136) (.nilck (.t 135)) none,
    .mk4 2 (some 137) (.faddr 289 (.t 136)) none,
    .mk4 3 (some 138) (.load1 (.t 137)) none,
    .mk4 4 (some 139) (.mv (.t 12)) none,
    .mk4 5 (some 140) (.call 55 [(.t 138), (.t 139)]) none] [0, 3, 12, 140]) (.cond (.t 140) (c27_1) (.skip))
def c27_3 : AC :=
  .seq (.seq (.region 0 [.mk4 0 (some 131) (.mv (.t 12)) none,
    .mk4 1 (some 132) (.bin .leq (.t 131) (.c (.i 31))) none] [0, 3, 12, 132]) (.cond (.t 132) (.skip) (.exit 6))) (.seq (.block 7 (c27_2)) (.region 0 [.mk4 0 (some 133) (.mv (.t 12)) none,
    .mk4 1 (some 134) (.bin .add (.t 133) (.c (.i 1))) none,
    .mk4 2 (some 12) (.mv (.t 134)) none] [0, 3, 12]))
def c27_4 : AC :=
  .seq (.seq (.region 0 [.mk4 0 (some 156) (.mv (.t 0)) none,
    .mk4 1 (some 157) (.nilck (.t 156)) none,
    .mk4 2 (some 158) (.faddr 291 (.t 157)) none,
    .mk4 3 (some 159) (.faddr 0 (.t 158)) none,
    .mk4 4 (some 160) (.load1 (.t 159)) none] [0, 3, 160]) (.cond (.t 160) (c27_0) (.skip))) (.seq (.region 0 [.mk4 0 (some 179) (.mv (.t 3)) none,
    .mk4 1 (some 2) (.mv (.t 179)) none] [2]) (.ret))
def c27_5 : AC :=
  .region 0 [.mk4 0 (some 125) (.mv (.t 3)) none,
    .mk4 1 (some 126) (.mv (.t 9)) none,
    .mk4 2 (some 127) (.call 54 [(.t 126), (.c (.str [32]))]) none,
    .mk4 3 (some 128) (.bslice 1 1 [.str []] [(0, (.t 127))]) none,
    .mk4 4 (some 129) (.append 1 16 (.t 125) (.t 128)) none,
    .mk4 5 (some 3) (.mv (.t 129)) none] [0, 3, 65, 66, 67]
def c27_6 : AC :=
  .region 0 [.mk4 0 (some 97) (.mv (.t 9)) none,
    .mk4 1 (some 98) (.mv (.t 11)) none,
    .mk4 2 (some 99) (.call 52 [(.t 98)]) none,
    .mk4 3 (some 100) (.bslice 1 1 [.str []] [(0, (.t 99))]) none,
    .mk4 4 (some 101) (.append 1 16 (.t 97) (.t 100)) none,
    .mk4 5 (some 9) (.mv (.t 101)) none] [0, 3, 8, 9, 65, 66, 67, 91, 92, 93]
def c27_7 : AC :=
  .seq (.block 5 (.seq (.region 0 [.mk4 0 (some 95) (.ixaS 1 (.t 91) (.t 93)) none,
    .mk4 1 (some 96) (.load1 (.t 95)) none,
    .mk4 2 (some 11) (.mv (.t 96)) none] [0, 3, 8, 9, 11, 65, 66, 67, 91, 92, 93]) (c27_6))) (.region 0 [.mk4 0 (some 102) (.bin .add (.t 93) (.c (.i 1))) none,
    .mk4 1 (some 93) (.mv (.t 102)) none] [0, 3, 8, 9, 65, 66, 67, 91, 92, 93])
def c27_8 : AC :=
  .seq (.region 0 [.mk4 0 (some 88) (.mv (.t 8)) none,
    .mk4 1 (some 89) (.nilck (.t 88)) none,
    .mk4 2 (some 90) (.faddr 16 (.t 89)) none,
    .mk4 3 (some 91) (.load1 (.t 90)) none,
    .mk4 4 (some 92) (.lenL (.t 91)) none,
    .mk4 5 (some 93) (.mv (.c (.i 0))) none] [0, 3, 8, 9, 65, 66, 67, 91, 92, 93]) (.block 4 (.loop [0, 3, 8, 9, 65, 66, 67, 91, 92, 93] (.seq (.region 0 [.mk4 0 (some 94) (.bin .lss (.t 93) (.t 92)) none] [0, 3, 8, 9, 65, 66, 67, 91, 92, 93, 94]) (.seq (.cond (.t 94) (.skip) (.exit 4)) (c27_7)))))
def c27_9 : AC :=
  .seq (.region 0 [.mk4 0 (some 80) (.mv (.t 9)) none,
    .mk4 1 (some 81) (.mv (.t 8)) none,
    .mk4 2 (some 82) (.nilck (.t 81)) none,
    .mk4 3 (some 83) (.faddr 15 (.t 82)) none,
    .mk4 4 (some 84) (.load1 (.t 83)) none,
    .mk4 5 (some 85) (.call 52 [(.t 84)]) none,
    .mk4 6 (some 86) (.bslice 1 2 [.str [], .str []] [(0, (.c (.str [108, 105, 115, 116, 101, 110]))), (1, (.t 85))]) none,
    .mk4 7 (some 87) (.append 1 16 (.t 80) (.t 86)) none,
    .mk4 8 (some 9) (.mv (.t 87)) none] [0, 3, 8, 9, 65, 66, 67]) (c27_8)
def c27_10 : AC :=
  .region 0 [.mk4 0 (some 103) (.mv (.t 9)) none,
    .mk4 1 (some 104) (.mv (.t 8)) none,
    .mk4 2 (some 105) (.nilck (.t 104)) none,
    .mk4 3 (some 106) (.faddr 0 (.t 105)) none,
    .mk4 4 (some 107) (.ixaA 2 7 (.t 106) (.c (.i 0))) none,
    .mk4 5 (some 108) (.loadN 7 (.t 107)) none,
    .mk4 8 (some 111) (.mv (.t 8)) none,
    .mk4 9 (some 112) (.nilck (.t 111)) none,
    .mk4 10 (some 113) (.faddr 0 (.t 112)) none,
    .mk4 11 (some 114) (.ixaA 2 7 (.t 113) (.c (.i 1))) none,
    .mk4 12 (some 115) (.loadN 7 (.t 114)) none,
    ⟨6, (some 109), .call 53 [(.t 108)], none, none, [(115, .loadN 7 (.t 114), none)]⟩,
    ⟨7, (some 110), .append 1 16 (.t 103) (.t 109), none, none, [(115, .loadN 7 (.t 114), none)]⟩,
    .mk4 13 (some 116) (.call 53 [(.t 115)]) none,
    .mk4 14 (some 117) (.append 1 16 (.t 110) (.t 116)) none,
    .mk4 15 (some 9) (.mv (.t 117)) none] [0, 3, 8, 9, 65, 66, 67]
def c27_11 : AC :=
  .seq (.seq (.region 0 [.mk4 0 (some 118) (.mv (.t 8)) none,
    .mk4 1 (some 119) (.nilck (.t 118)) none,
    .mk4 2 (some 120) (.faddr 14 (.t 119)) none,
    .mk4 3 (some 121) (.load1 (.t 120)) none] [0, 3, 9, 65, 66, 67, 121]) (.cond (.t 121) (.region 0 [.mk4 0 (some 122) (.mv (.t 9)) none,
    .mk4 1 (some 123) (.bslice 1 1 [.str []] [(0, (.c (.str [114, 101, 115, 101, 116])))]) none,
    .mk4 2 (some 124) (.append 1 16 (.t 122) (.t 123)) none,
    .mk4 3 (some 9) (.mv (.t 124)) none] [0, 3, 9, 65, 66, 67]) (.skip))) (c27_5)
def c27_12 : AC :=
  .seq (.seq (.region 0 [.mk4 0 (some 75) (.mv (.t 8)) none,
    .mk4 1 (some 76) (.nilck (.t 75)) none,
    .mk4 2 (some 77) (.faddr 15 (.t 76)) none,
    .mk4 3 (some 78) (.load1 (.t 77)) none,
    .mk4 4 (some 79) (.bin .gtr (.t 78) (.c (.i 0))) none] [0, 3, 8, 9, 65, 66, 67, 79]) (.cond (.t 79) (c27_9) (c27_10))) (c27_11)
def c27_13 : AC :=
  .seq (.region 0 [.mk4 0 (some 69) (.mv (.t 67)) none,
    .mk4 1 (some 70) (.ixaS 1 (.t 65) (.t 67)) none,
    .mk4 2 (some 71) (.load1 (.t 70)) none,
    .mk4 3 (some 7) (.mv (.t 69)) none,
    .mk4 4 (some 8) (.mv (.t 71)) none] [0, 3, 7, 8, 65, 66, 67]) (.seq (.region 0 [.mk4 0 (some 72) (.mv (.t 7)) none,
    .mk4 1 (some 73) (.call 52 [(.t 72)]) none,
    .mk4 2 (some 74) (.bslice 1 2 [.str [], .str []] [(0, (.c (.str [119, 105, 114, 101]))), (1, (.t 73))]) none,
    .mk4 3 (some 9) (.mv (.t 74)) none] [0, 3, 8, 9, 65, 66, 67]) (c27_12))
def c27_14 : AC :=
  .loop [0, 3, 65, 66, 67] (.seq (.region 0 [.mk4 0 (some 68) (.bin .lss (.t 67) (.t 66)) none] [0, 3, 65, 66, 67, 68]) (.seq (.cond (.t 68) (.skip) (.exit 2)) (.seq (.block 3 (c27_13)) (.region 0 [.mk4 0 (some 130) (.bin .add (.t 67) (.c (.i 1))) none,
    .mk4 1 (some 67) (.mv (.t 130)) none] [0, 3, 65, 66, 67]))))
def c27_15 : AC :=
  .region 1 [.mk4 0 (some 46) (.mv (.t 3)) none,
    .mk4 1 (some 47) (.mv (.t 4)) none,
    .mk4 5 (some 51) (.faddr 1 (.t 5)) none,
    .mk4 6 (some 52) (.load1 (.t 51)) none,
    .mk4 10 (some 56) (.mv (.t 6)) none,
    ⟨2, (some 48), .call 52 [(.t 47)], none, none, [(52, .load1 (.t 51), none)]⟩,
    .mk4 3 (some 49) (.bin .add (.c (.str [102, 100, 32])) (.t 48)) none,
    .mk4 4 (some 50) (.bin .add (.t 49) (.c (.str [32, 119, 105, 114, 101, 32]))) none,
    .mk4 7 (some 53) (.call 52 [(.t 52)]) none,
    .mk4 8 (some 54) (.bin .add (.t 50) (.t 53)) none,
    .mk4 9 (some 55) (.bin .add (.t 54) (.c (.str [32, 101, 110, 100, 32]))) none,
    .mk4 11 (some 57) (.call 52 [(.t 56)]) none,
    .mk4 12 (some 58) (.bin .add (.t 55) (.t 57)) none,
    ⟨13, (some 59), .bslice 1 1 [.str []] [(0, (.t 58))], none, some 0, []⟩,
    .mk4 14 (some 60) (.append 1 16 (.t 46) (.t 59)) none,
    .mk4 15 (some 3) (.mv (.t 60)) none] [0, 3, 25, 26]
def c27_16 : AC :=
  .seq (.seq (.region 0 [.mk4 0 (some 34) (.mv (.t 0)) none,
    .mk4 1 (some 35) (.nilck (.t 34)) none,
    .mk4 2 (some 36) (.faddr 288 (.t 35)) none,
    .mk4 3 (some 37) (.load1 (.t 36)) none,
    .mk4 4 (some 38) (.faddr 1 (.t 5)) none,
    .mk4 5 (some 39) (.load1 (.t 38)) none,
    .mk4 6 (some 40) (.ixaS 1 (.t 37) (.t 39)) none,
    .mk4 7 (some 41) (.load1 (.t 40)) none,
    .mk4 8 (some 42) (.nilck (.t 41)) none,
    .mk4 9 (some 43) (.faddr 15 (.t 42)) none,
    .mk4 10 (some 44) (.load1 (.t 43)) none,
    .mk4 11 (some 45) (.bin .gtr (.t 44) (.c (.i 0))) none] [0, 3, 4, 5, 6, 25, 26, 45]) (.cond (.t 45) (.region 0 [.mk4 0 (some 6) (.mv (.c (.i 2))) none] [0, 3, 4, 5, 6, 25, 26]) (.skip))) (c27_15)
def c27_17 : AC :=
  .seq (.region 0 [.mk4 0 (some 30) (.faddr 0 (.t 5)) none,
    .mk4 1 (some 31) (.load1 (.t 30)) none] [0, 3, 4, 5, 25, 26, 31]) (.cond (.t 31) (.seq (.region 0 [.mk4 0 (some 32) (.faddr 2 (.t 5)) none,
    .mk4 1 (some 33) (.load1 (.t 32)) none,
    .mk4 2 (some 6) (.mv (.t 33)) none] [0, 3, 4, 5, 6, 25, 26]) (c27_16)) (.skip))
def c27_18 : AC :=
  .seq (.block 1 (.seq (.region 0 [.mk4 0 (some 28) (.mv (.t 26)) none,
    .mk4 1 (some 29) (.ixA 96 3 (some 3) (.t 25) (.t 26)) none,
    .mk4 2 (some 5) (.alloc 3 [.bool false, .i 0, .i 0]) none,
    .mk4 3 (some 4) (.mv (.t 28)) none,
    .mk4 4 none (.store 3 (.t 5) (.t 29)) none] [0, 3, 4, 5, 25, 26]) (c27_17))) (.region 0 [.mk4 0 (some 61) (.bin .add (.t 26) (.c (.i 1))) none,
    .mk4 1 (some 26) (.mv (.t 61)) none] [0, 3, 25, 26])
def c27_19 : AC :=
  .seq (.seq (.region 0 [.mk4 0 (some 62) (.mv (.t 0)) none,
    .mk4 1 (some 63) (.nilck (.t 62)) none,
    .mk4 2 (some 64) (.faddr 288 (.t 63)) none,
    .mk4 3 (some 65) (.load1 (.t 64)) none,
    .mk4 4 (some 66) (.lenL (.t 65)) none,
    .mk4 5 (some 67) (.mv (.c (.i 0))) none] [0, 3, 65, 66, 67]) (.block 2 (c27_14))) (.seq (.seq (.region 0 [.mk4 0 (some 12) (.mv (.c (.i 1))) none] [0, 3, 12]) (.block 6 (.loop [0, 3, 12] (c27_3)))) (c27_4))
def c27_20 : AC :=
  .seq (.seq (.region 0 [.mk4 0 (some 22) (.mv (.t 0)) none,
    .mk4 1 (some 23) (.nilck (.t 22)) none,
    .mk4 2 (some 24) (.faddr 0 (.t 23)) none,
    .mk4 3 (some 25) (.loadN 288 (.t 24)) none,
    .mk4 4 (some 26) (.mv (.c (.i 0))) none] [0, 3, 25, 26]) (.block 0 (.loop [0, 3, 25, 26] (.seq (.region 0 [.mk4 0 (some 27) (.bin .lss (.t 26) (.c (.i 96))) none] [0, 3, 25, 26, 27]) (.seq (.cond (.t 27) (.skip) (.exit 0)) (c27_18)))))) (c27_19)
def c27_21 : AC :=
  .seq (.region 0 [.mk4 0 (some 15) (.mv (.t 0)) none,
    .mk4 1 (some 16) (.nilck (.t 15)) none,
    .mk4 2 (some 17) (.faddr 290 (.t 16)) none,
    .mk4 3 (some 18) (.load1 (.t 17)) none,
    .mk4 4 (some 19) (.call 51 [(.t 18), (.c (.i 10))]) none,
    .mk4 5 (some 20) (.bin .add (.c (.str [110, 111, 119, 32])) (.t 19)) none,
    .mk4 6 (some 21) (.bslice 1 1 [.str []] [(0, (.t 20))]) none,
    .mk4 7 (some 3) (.mv (.t 21)) none] [0, 3]) (c27_20)
def c27 : AFn := ⟨1, 180, [.tmp 2],
  (.seq (.region 0 [.mk4 0 (some 2) (.mv (.c (.nils))) none] [0]) (.seq (.seq (.region 0 [.mk4 0 (some 13) (.mv (.t 0)) none,
    .mk4 1 (some 14) (.call 41 [(.t 13)]) none] [0, 14]) (.cond (.t 14) (.seq (.region 0 [.mk4 0 (some 2) (.mv (.c (.nils))) none] [2]) (.ret)) (.skip))) (c27_21)))⟩
def c28_0 : AC :=
  .seq (.region 0 [.mk4 0 (some 33) (.mv (.t 4)) none,
    .mk4 1 (some 34) (.bin .eql (.t 33) (.c (.i 0))) none,
    .mk4 2 (some 35) (.mv (.t 34)) none,
    .mk4 3 (some 36) (.mv (.t 2)) (some (35, true)),
    .mk4 4 (some 37) (.bin .eql (.t 36) (.c (.i 0))) (some (35, true)),
    .mk4 5 (some 38) (.pick (.t 35) (.t 37) (.c (.bool false))) none,
    .mk4 6 (some 39) (.mv (.t 38)) none,
    .mk4 7 (some 40) (.mv (.t 3)) (some (39, true)),
    .mk4 8 (some 41) (.bin .eql (.t 40) (.c (.i 0))) (some (39, true)),
    .mk4 9 (some 42) (.pick (.t 39) (.t 41) (.c (.bool false))) none,
    .mk4 10 (some 43) (.mv (.t 42)) none,
    .mk4 11 (some 44) (.mv (.t 5)) (some (43, true)),
    .mk4 12 (some 45) (.bin .eql (.t 44) (.c (.i 4))) (some (43, true)),
    .mk4 13 (some 46) (.pick (.t 43) (.t 45) (.c (.bool false))) none,
    .mk4 14 (some 47) (.mv (.t 46)) none,
    .mk4 15 (some 48) (.mv (.t 6)) (some (47, true)),
    .mk4 16 (some 49) (.bin .eql (.t 48) (.c (.i 0))) (some (47, true)),
    .mk4 17 (some 50) (.pick (.t 47) (.t 49) (.c (.bool false))) none,
    .mk4 18 (some 51) (.mv (.t 50)) none,
    .mk4 19 (some 52) (.faddr 1 (.t 7)) (some (51, true)),
    .mk4 20 (some 53) (.load1 (.t 52)) (some (51, true)),
    .mk4 21 (some 54) (.pick (.t 51) (.t 53) (.c (.bool false))) none,
    .mk4 22 (some 55) (.mv (.t 54)) none,
    .mk4 23 (some 56) (.faddr 2 (.t 7)) (some (55, true)),
    .mk4 24 (some 57) (.load1 (.t 56)) (some (55, true)),
    .mk4 25 (some 58) (.pick (.t 55) (.t 57) (.c (.bool false))) none,
    .mk4 26 (some 59) (.mv (.t 58)) none,
    .mk4 27 (some 60) (.faddr 5 (.t 7)) (some (59, true)),
    .mk4 28 (some 61) (.load1 (.t 60)) (some (59, true)),
    .mk4 29 (some 62) (.bin .eql (.t 61) (.c (.int .u64 1))) (some (59, true)),
    .mk4 30 (some 63) (.pick (.t 59) (.t 62) (.c (.bool false))) none,
    .mk4 31 (some 64) (.mv (.t 63)) none,
    .mk4 32 (some 65) (.mv (.t 8)) (some (64, true)),
    .mk4 33 (some 66) (.ofBytes (.t 65)) (some (64, true)),
    .mk4 34 (some 67) (.bin .eql (.t 66) (.c (.str [97, 98, 99]))) (some (64, true)),
    .mk4 35 (some 68) (.pick (.t 64) (.t 67) (.c (.bool false))) none,
    .mk4 36 (some 69) (.mv (.t 68)) none,
    .mk4 37 (some 70) (.mv (.t 9)) (some (69, true)),
    .mk4 38 (some 71) (.un .not (.t 70)) (some (69, true)),
    .mk4 39 (some 72) (.pick (.t 69) (.t 71) (.c (.bool false))) none,
    .mk4 40 (some 73) (.mv (.t 72)) none,
    .mk4 41 (some 74) (.mv (.t 10)) (some (73, true)),
    .mk4 42 (some 75) (.bin .eql (.t 74) (.c (.i 0))) (some (73, true)),
    .mk4 43 (some 76) (.pick (.t 73) (.t 75) (.c (.bool false))) none,
    .mk4 44 (some 0) (.mv (.t 76)) none] [0]) (.ret)
def c28_1 : AC :=
  .seq (.region 0 [.mk4 0 (some 28) (.mv (.t 1)) none,
    .mk4 1 (some 29) (.call 7 [(.t 28), (.c (.i 0)), (.c (.i 3))]) none,
    .mk4 2 (some 27) (.mv (.t 29)) none,
    .mk4 3 (some 30) (.extract (.t 27) 0) none,
    .mk4 4 (some 31) (.extract (.t 27) 1) none,
    .mk4 5 (some 32) (.extract (.t 27) 2) none,
    .mk4 6 (some 8) (.mv (.t 30)) none,
    .mk4 7 (some 9) (.mv (.t 31)) none,
    .mk4 8 (some 10) (.mv (.t 32)) none] [2, 3, 4, 5, 6, 7, 8, 9, 10]) (c28_0)
def c28_2 : AC :=
  .seq (.region 0 [.mk4 0 (some 25) (.mv (.t 1)) none,
    .mk4 1 (some 26) (.call 11 [(.t 25), (.c (.i 0))]) none,
    .mk4 2 (some 7) (.alloc 7 [.bool false, .bool false, .bool false, .bool false, .bool false, .int .u64 0, .int .u64 0]) none,
    .mk4 3 none (.store 7 (.t 7) (.t 26)) none] [1, 2, 3, 4, 5, 6, 7]) (c28_1)
def c28_3 : AC :=
  .seq (.region 0 [.mk4 0 (some 19) (.mv (.t 1)) none,
    .mk4 1 (some 20) (.bslice 1 6 [.int .u8 0, .int .u8 0, .int .u8 0, .int .u8 0, .int .u8 0, .int .u8 0] [(0, (.c (.int .u8 97))), (1, (.c (.int .u8 98))), (2, (.c (.int .u8 99))), (3, (.c (.int .u8 100))), (4, (.c (.int .u8 101))), (5, (.c (.int .u8 102)))]) none,
    .mk4 2 (some 21) (.mark (.t 20)) none,
    .mk4 3 (some 22) (.call 6 [(.t 19), (.c (.i 0)), (.t 21)]) none,
    .mk4 4 (some 18) (.mv (.t 22)) none,
    .mk4 5 (some 23) (.extract (.t 18) 0) none,
    .mk4 6 (some 24) (.extract (.t 18) 1) none,
    .mk4 7 (some 5) (.mv (.t 23)) none,
    .mk4 8 (some 6) (.mv (.t 24)) none] [1, 2, 3, 4, 5, 6]) (c28_2)
def c28_4 : AC :=
  .seq (.region 0 [.mk4 0 (some 13) (.mv (.t 1)) none,
    .mk4 1 (some 14) (.call 5 [(.t 13), (.c (.i 4))]) none,
    .mk4 2 (some 12) (.mv (.t 14)) none,
    .mk4 3 (some 15) (.extract (.t 12) 0) none,
    .mk4 4 (some 16) (.extract (.t 12) 1) none,
    .mk4 5 (some 17) (.extract (.t 12) 2) none,
    .mk4 6 (some 2) (.mv (.t 15)) none,
    .mk4 7 (some 3) (.mv (.t 16)) none,
    .mk4 8 (some 4) (.mv (.t 17)) none] [1, 2, 3, 4]) (c28_3)
def c28 : AFn := ⟨0, 77, [.tmp 0],
  (.seq (.region 0 [.mk4 0 (some 0) (.mv (.c (.bool false))) none] []) (.seq (.region 0 [.mk4 0 (some 11) (.call 4 []) none,
    .mk4 1 (some 1) (.mv (.t 11)) none] [1]) (c28_4)))⟩
def c29 : AFn := ⟨0, 3, [.tmp 0],
  (.seq (.region 0 [.mk4 0 (some 0) (.mv (.c (.ptr none))) none] []) (.seq (.region 0 [.mk4 0 (some 1) (.build (List.replicate 32 (.bool false : V) ++ List.replicate 32 (.i 0 : V)) []) none,
    .mk4 1 (some 2) (.box 64 (.t 1)) none,
    .mk4 2 (some 0) (.mv (.t 2)) none] [0]) (.ret)))⟩
def c30_0 : AC :=
  .region 0 [.mk4 0 (some 21) (.mv (.t 3)) none,
    .mk4 1 (some 22) (.mv (.t 4)) none,
    .mk4 2 (some 23) (.nilck (.t 21)) none,
    .mk4 3 (some 24) (.faddr 0 (.t 23)) none,
    .mk4 4 (some 25) (.ixaA 2 7 (.t 24) (.t 22)) none,
    .mk4 5 (some 26) (.faddr 3 (.t 25)) none,
    .mk4 6 none (.store 1 (.t 26) (.c (.bool true))) none] [0, 3, 7]
def c30_1 : AC :=
  .seq (.region 0 [.mk4 0 (some 11) (.mv (.t 3)) none,
    .mk4 1 (some 12) (.mv (.t 4)) none,
    .mk4 2 (some 13) (.mv (.t 0)) none,
    .mk4 7 (some 17) (.nilck (.t 11)) none,
    .mk4 8 (some 18) (.faddr 0 (.t 17)) none,
    .mk4 3 (some 14) (.call 57 [(.t 13)]) none,
    .mk4 4 (some 10) (.mv (.t 14)) none,
    .mk4 5 (some 15) (.extract (.t 10) 0) none,
    .mk4 6 (some 16) (.extract (.t 10) 1) none,
    .mk4 9 (some 19) (.ixaA 2 7 (.t 18) (.t 12)) none,
    .mk4 10 (some 20) (.faddr 2 (.t 19)) none,
    .mk4 11 none (.store 1 (.t 20) (.t 15)) none] [0, 3, 4, 7]) (c30_0)
def c30_2 : AC :=
  .seq (.region 0 [.mk4 0 (some 8) (.bin .lss (.t 7) (.c (.i 2))) none] [0, 3, 7, 8]) (.seq (.cond (.t 8) (.skip) (.exit 0)) (.seq (.block 1 (.seq (.region 0 [.mk4 0 (some 9) (.mv (.t 7)) none,
    .mk4 1 (some 4) (.mv (.t 9)) none] [0, 3, 4, 7]) (c30_1))) (.region 0 [.mk4 0 (some 27) (.bin .add (.t 7) (.c (.i 1))) none,
    .mk4 1 (some 7) (.mv (.t 27)) none] [0, 3, 7])))
def c30_3 : AC :=
  .seq (.region 0 [.mk4 0 (some 5) (.build [.i 0, .i 0, .ptr none, .bool false, .bool false, .int .u64 0, .int .u64 0, .i 0, .i 0, .ptr none, .bool false, .bool false, .int .u64 0, .int .u64 0, .bool false, .i 0, .nils] []) none,
    .mk4 1 (some 6) (.box 17 (.t 5)) none,
    .mk4 2 (some 3) (.mv (.t 6)) none] [0, 3]) (.seq (.seq (.region 0 [.mk4 0 (some 7) (.mv (.c (.i 0))) none] [0, 3, 7]) (.block 0 (.loop [0, 3, 7] (c30_2)))) (.seq (.region 0 [.mk4 0 (some 28) (.mv (.t 3)) none,
    .mk4 1 (some 2) (.mv (.t 28)) none] [2]) (.ret)))
def c30 : AFn := ⟨1, 29, [.tmp 2],
  (.seq (.region 0 [.mk4 0 (some 2) (.mv (.c (.ptr none))) none] [0]) (c30_3))⟩
def c31_0 : AC :=
  .seq (.region 0 [.mk4 0 (some 27) (.mv (.t 0)) none,
    .mk4 1 (some 28) (.mv (.t 3)) none,
    .mk4 2 (some 29) (.mv (.t 10)) none,
    .mk4 3 (some 30) (.call 59 [(.t 27), (.t 28), (.t 29)]) none] [10]) (.seq (.region 0 [.mk4 0 (some 31) (.mv (.t 10)) none,
    .mk4 1 (some 8) (.mv (.t 31)) none,
    .mk4 2 (some 9) (.mv (.c (.i 0))) none] [8, 9]) (.ret))
def c31_1 : AC :=
  .seq (.region 0 [.mk4 0 (some 16) (.mv (.t 1)) none,
    .mk4 1 (some 17) (.call 42 [(.t 16)]) none,
    .mk4 2 (some 18) (.un .not (.t 17)) none,
    .mk4 3 (some 15) (.mv (.t 18)) none] [0, 2, 3, 15]) (.cond (.t 15) (.seq (.region 0 [.mk4 0 (some 8) (.mv (.c (.nils))) none,
    .mk4 1 (some 9) (.mv (.c (.i 2))) none] [8, 9]) (.ret)) (.skip))
def c31_2 : AC :=
  .seq (.region 0 [.mk4 0 (some 13) (.mv (.t 0)) none,
    .mk4 1 (some 14) (.call 41 [(.t 13)]) none,
    .mk4 2 (some 12) (.mv (.t 14)) none] [0, 1, 2, 3, 12]) (.cond (.t 12) (.seq (.region 0 [.mk4 0 (some 8) (.mv (.c (.nils))) none,
    .mk4 1 (some 9) (.mv (.c (.i 1))) none] [8, 9]) (.ret)) (c31_1))
def c31_3 : AC :=
  .seq (.region 0 [.mk4 0 (some 20) (.mv (.t 0)) none,
    .mk4 1 (some 21) (.mv (.t 2)) none,
    .mk4 2 (some 22) (.call 58 [(.t 20), (.t 21)]) none,
    .mk4 3 (some 19) (.mv (.t 22)) none,
    .mk4 4 (some 23) (.extract (.t 19) 0) none,
    .mk4 5 (some 24) (.extract (.t 19) 1) none,
    .mk4 6 (some 10) (.mv (.t 23)) none,
    .mk4 7 (some 11) (.mv (.t 24)) none] [0, 3, 10, 11]) (.seq (.seq (.region 0 [.mk4 0 (some 25) (.mv (.t 11)) none,
    .mk4 1 (some 26) (.un .not (.t 25)) none] [0, 3, 10, 26]) (.cond (.t 26) (.seq (.region 0 [.mk4 0 (some 8) (.mv (.c (.nils))) none,
    .mk4 1 (some 9) (.mv (.c (.i 112))) none] [8, 9]) (.ret)) (.skip))) (c31_0))
def c31 : AFn := ⟨4, 32, [.tmp 8, .tmp 9],
  (.seq (.region 0 [.mk4 0 (some 8) (.mv (.c (.nils))) none,
    .mk4 1 (some 9) (.mv (.c (.i 0))) none] [0, 1, 2, 3]) (.seq (.block 0 (c31_2)) (c31_3)))⟩
def c32_0 : AC :=
  .seq (.region 0 [.mk4 0 (some 10) (.mv (.t 1)) none,
    .mk4 1 (some 11) (.bin .lss (.t 10) (.c (.i 0))) none,
    .mk4 2 (some 12) (.mv (.t 11)) none,
    .mk4 3 (some 13) (.mv (.t 1)) (some (12, false)),
    .mk4 4 (some 14) (.mv (.t 0)) (some (12, false)),
    .mk4 5 (some 15) (.nilck (.t 14)) (some (12, false)),
    .mk4 6 (some 16) (.faddr 288 (.t 15)) (some (12, false)),
    .mk4 7 (some 17) (.load1 (.t 16)) (some (12, false)),
    .mk4 8 (some 18) (.lenL (.t 17)) (some (12, false)),
    .mk4 9 (some 19) (.bin .geq (.t 13) (.t 18)) (some (12, false)),
    .mk4 10 (some 20) (.pick (.t 12) (.c (.bool true)) (.t 19)) none,
    .mk4 11 (some 21) (.mv (.t 20)) none,
    .mk4 12 (some 22) (.mv (.t 0)) (some (21, false)),
    .mk4 13 (some 23) (.nilck (.t 22)) (some (21, false)),
    .mk4 14 (some 24) (.faddr 288 (.t 23)) (some (21, false)),
    .mk4 15 (some 25) (.load1 (.t 24)) (some (21, false)),
    .mk4 16 (some 26) (.mv (.t 1)) (some (21, false)),
    .mk4 17 (some 27) (.ixaS 1 (.t 25) (.t 26)) (some (21, false)),
    .mk4 18 (some 28) (.load1 (.t 27)) (some (21, false)),
    .mk4 19 (some 29) (.nilck (.t 28)) (some (21, false)),
    .mk4 20 (some 30) (.faddr 0 (.t 29)) (some (21, false)),
    .mk4 21 (some 31) (.ixaA 2 7 (.t 30) (.c (.i 1))) (some (21, false)),
    .mk4 22 (some 32) (.faddr 0 (.t 31)) (some (21, false)),
    .mk4 23 (some 33) (.load1 (.t 32)) (some (21, false)),
    .mk4 24 (some 34) (.bin .neq (.t 33) (.c (.i 2))) (some (21, false)),
    .mk4 25 (some 35) (.pick (.t 21) (.c (.bool true)) (.t 34)) none,
    .mk4 26 (some 9) (.mv (.t 35)) none] [0, 1, 9]) (.cond (.t 9) (.seq (.region 0 [.mk4 0 (some 4) (.mv (.c (.ptr none))) none,
    .mk4 1 (some 5) (.mv (.c (.i 116))) none] [4, 5]) (.ret)) (.skip))
def c32_1 : AC :=
  .seq (.region 0 [.mk4 0 (some 36) (.mv (.t 0)) none,
    .mk4 1 (some 37) (.nilck (.t 36)) none,
    .mk4 2 (some 38) (.faddr 288 (.t 37)) none,
    .mk4 3 (some 39) (.load1 (.t 38)) none,
    .mk4 4 (some 40) (.mv (.t 1)) none,
    .mk4 5 (some 41) (.ixaS 1 (.t 39) (.t 40)) none,
    .mk4 6 (some 42) (.load1 (.t 41)) none,
    .mk4 7 (some 4) (.mv (.t 42)) none,
    .mk4 8 (some 5) (.mv (.c (.i 0))) none] [4, 5]) (.ret)
def c32_2 : AC :=
  .seq (.block 0 (.seq (.region 0 [.mk4 0 (some 7) (.mv (.t 0)) none,
    .mk4 1 (some 8) (.call 41 [(.t 7)]) none,
    .mk4 2 (some 6) (.mv (.t 8)) none] [0, 1, 6]) (.cond (.t 6) (.seq (.region 0 [.mk4 0 (some 4) (.mv (.c (.ptr none))) none,
    .mk4 1 (some 5) (.mv (.c (.i 1))) none] [4, 5]) (.ret)) (c32_0)))) (c32_1)
def c32 : AFn := ⟨2, 43, [.tmp 4, .tmp 5],
  (.seq (.region 0 [.mk4 0 (some 4) (.mv (.c (.ptr none))) none,
    .mk4 1 (some 5) (.mv (.c (.i 0))) none] [0, 1]) (c32_2))⟩
def c33_0 : AC :=
  .seq (.region 0 [.mk4 0 (some 18) (.mv (.t 0)) none,
    .mk4 1 (some 19) (.mv (.t 1)) none,
    .mk4 2 (some 20) (.bin .sub (.c (.i 1)) (.t 19)) none,
    .mk4 3 (some 21) (.mv (.t 7)) none,
    .mk4 4 (some 22) (.bin .gtr (.t 21) (.c (.i 0))) none,
    .mk4 5 (some 23) (.call 50 [(.t 18), (.t 20), (.t 22), (.c (.bool false))]) none] [7]) (.seq (.region 0 [.mk4 0 (some 24) (.mv (.t 7)) none,
    .mk4 1 (some 6) (.mv (.t 24)) none] [6]) (.ret))
def c33_1 : AC :=
  .seq (.region 0 [.mk4 0 (some 8) (.mv (.t 0)) none,
    .mk4 1 (some 9) (.mv (.t 1)) none,
    .mk4 2 (some 10) (.bin .sub (.c (.i 1)) (.t 9)) none,
    .mk4 3 (some 11) (.nilck (.t 8)) none,
    .mk4 4 (some 12) (.faddr 0 (.t 11)) none,
    .mk4 5 (some 13) (.ixaA 2 7 (.t 12) (.t 10)) none,
    .mk4 6 (some 14) (.faddr 2 (.t 13)) none,
    .mk4 7 (some 15) (.load1 (.t 14)) none,
    .mk4 8 (some 16) (.mv (.t 2)) none,
    .mk4 9 (some 17) (.call 60 [(.t 15), (.t 16)]) none,
    .mk4 10 (some 7) (.mv (.t 17)) none] [0, 1, 7]) (c33_0)
def c33 : AFn := ⟨3, 25, [.tmp 6],
  (.seq (.region 0 [.mk4 0 (some 6) (.mv (.c (.i 0))) none] [0, 1, 2]) (c33_1))⟩
def c34_0 : AC :=
  .seq (.region 0 [.mk4 0 (some 12) (.mv (.t 1)) none,
    .mk4 1 (some 13) (.bin .lss (.t 12) (.c (.i 0))) none,
    .mk4 2 (some 14) (.mv (.t 13)) none,
    .mk4 3 (some 15) (.mv (.t 1)) (some (14, false)),
    .mk4 4 (some 16) (.bin .gtr (.t 15) (.c (.i 95))) (some (14, false)),
    .mk4 5 (some 17) (.pick (.t 14) (.c (.bool true)) (.t 16)) none,
    .mk4 6 (some 18) (.mv (.t 17)) none,
    .mk4 7 (some 19) (.mv (.t 0)) (some (18, false)),
    .mk4 8 (some 20) (.mv (.t 1)) (some (18, false)),
    .mk4 9 (some 21) (.nilck (.t 19)) (some (18, false)),
    .mk4 10 (some 22) (.faddr 0 (.t 21)) (some (18, false)),
    .mk4 11 (some 23) (.ixaA 96 3 (.t 22) (.t 20)) (some (18, false)),
    .mk4 12 (some 24) (.faddr 0 (.t 23)) (some (18, false)),
    .mk4 13 (some 25) (.load1 (.t 24)) (some (18, false)),
    .mk4 14 (some 26) (.un .not (.t 25)) (some (18, false)),
    .mk4 15 (some 27) (.pick (.t 18) (.c (.bool true)) (.t 26)) none,
    .mk4 16 (some 11) (.mv (.t 27)) none] [0, 1, 4, 11]) (.cond (.t 11) (.seq (.region 0 [.mk4 0 (some 28) (.build [.bool false, .i 0, .i 0] []) none,
    .mk4 1 none (.store 3 (.t 4) (.t 28)) none,
    .mk4 2 (some 5) (.mv (.c (.ptr none))) none,
    .mk4 3 (some 6) (.mv (.c (.i 110))) none] [4, 5, 6]) (.ret)) (.skip))
def c34_1 : AC :=
  .seq (.region 0 [.mk4 0 (some 8) (.mv (.t 0)) none,
    .mk4 1 (some 9) (.call 41 [(.t 8)]) none,
    .mk4 2 (some 7) (.mv (.t 9)) none] [0, 1, 4, 7]) (.cond (.t 7) (.seq (.region 0 [.mk4 0 (some 10) (.build [.bool false, .i 0, .i 0] []) none,
    .mk4 1 none (.store 3 (.t 4) (.t 10)) none,
    .mk4 2 (some 5) (.mv (.c (.ptr none))) none,
    .mk4 3 (some 6) (.mv (.c (.i 1))) none] [4, 5, 6]) (.ret)) (c34_0))
def c34_2 : AC :=
  .seq (.region 0 [.mk4 0 (some 29) (.mv (.t 0)) none,
    .mk4 1 (some 30) (.mv (.t 1)) none,
    .mk4 2 (some 31) (.nilck (.t 29)) none,
    .mk4 3 (some 32) (.faddr 0 (.t 31)) none,
    .mk4 4 (some 33) (.ixaA 96 3 (.t 32) (.t 30)) none,
    .mk4 5 (some 34) (.loadN 3 (.t 33)) none,
    .mk4 6 (some 35) (.mv (.t 0)) none,
    .mk4 7 (some 36) (.nilck (.t 35)) none,
    .mk4 8 (some 37) (.faddr 288 (.t 36)) none,
    .mk4 9 (some 38) (.load1 (.t 37)) none,
    .mk4 10 (some 39) (.mv (.t 0)) none,
    .mk4 11 (some 40) (.mv (.t 1)) none,
    .mk4 12 (some 41) (.nilck (.t 39)) none,
    .mk4 13 (some 42) (.faddr 0 (.t 41)) none,
    .mk4 14 (some 43) (.ixaA 96 3 (.t 42) (.t 40)) none,
    .mk4 15 (some 44) (.faddr 1 (.t 43)) none,
    .mk4 16 (some 45) (.load1 (.t 44)) none,
    .mk4 17 (some 46) (.ixaS 1 (.t 38) (.t 45)) none,
    .mk4 18 (some 47) (.load1 (.t 46)) none,
    ⟨19, none, .store 3 (.t 4) (.t 34), none, none, [(38, .load1 (.t 37), none), (45, .load1 (.t 44), none), (47, .load1 (.t 46), none)]⟩,
    .mk4 20 (some 5) (.mv (.t 47)) none,
    .mk4 21 (some 6) (.mv (.c (.i 0))) none] [4, 5, 6]) (.ret)
def c34 : AFn := ⟨2, 48, [.cellN 4 3, .tmp 5, .tmp 6],
  (.seq (.region 0 [.mk4 0 (some 4) (.alloc 3 [.bool false, .i 0, .i 0]) none,
    .mk4 1 (some 5) (.mv (.c (.ptr none))) none,
    .mk4 2 (some 6) (.mv (.c (.i 0))) none] [0, 1, 4]) (.seq (.block 0 (c34_1)) (c34_2)))⟩
def c35_0 : AC :=
  .seq (.region 0 [.mk4 0 (some 17) (.mv (.t 0)) none,
    .mk4 1 (some 18) (.mv (.t 1)) none,
    .mk4 2 (some 19) (.bin .sub (.c (.i 1)) (.t 18)) none,
    .mk4 3 (some 20) (.mv (.t 7)) none,
    .mk4 4 (some 21) (.lenL (.t 20)) none,
    .mk4 5 (some 22) (.bin .gtr (.t 21) (.c (.i 0))) none,
    .mk4 6 (some 23) (.call 50 [(.t 17), (.t 19), (.c (.bool false)), (.t 22)]) none] [7]) (.seq (.region 0 [.mk4 0 (some 24) (.mv (.t 7)) none,
    .mk4 1 (some 6) (.mv (.t 24)) none] [6]) (.ret))
def c35_1 : AC :=
  .seq (.region 0 [.mk4 0 (some 8) (.mv (.t 0)) none,
    .mk4 1 (some 9) (.mv (.t 1)) none,
    .mk4 2 (some 10) (.nilck (.t 8)) none,
    .mk4 3 (some 11) (.faddr 0 (.t 10)) none,
    .mk4 4 (some 12) (.ixaA 2 7 (.t 11) (.t 9)) none,
    .mk4 5 (some 13) (.faddr 2 (.t 12)) none,
    .mk4 6 (some 14) (.load1 (.t 13)) none,
    .mk4 7 (some 15) (.mv (.t 2)) none,
    .mk4 8 (some 16) (.call 61 [(.t 14), (.t 15)]) none,
    .mk4 9 (some 7) (.mv (.t 16)) none] [0, 1, 7]) (c35_0)
def c35 : AFn := ⟨3, 25, [.tmp 6],
  (.seq (.region 0 [.mk4 0 (some 6) (.mv (.c (.nils))) none] [0, 1, 2]) (c35_1))⟩
def c36_0 : AC :=
  .seq (.region 0 [.mk4 0 (some 5) (.mv (.t 0)) none,
    .mk4 1 (some 6) (.mv (.t 1)) none,
    .mk4 2 (some 7) (.bin .sub (.c (.i 1)) (.t 6)) none,
    .mk4 3 (some 8) (.nilck (.t 5)) none,
    .mk4 4 (some 9) (.faddr 0 (.t 8)) none,
    .mk4 5 (some 10) (.ixaA 2 7 (.t 9) (.t 7)) none,
    .mk4 6 (some 11) (.faddr 0 (.t 10)) none,
    .mk4 7 (some 12) (.load1 (.t 11)) none,
    .mk4 8 (some 13) (.bin .eql (.t 12) (.c (.i 3))) none,
    .mk4 9 (some 14) (.mv (.t 13)) none,
    .mk4 10 (some 15) (.mv (.t 0)) (some (14, false)),
    .mk4 11 (some 16) (.mv (.t 1)) (some (14, false)),
    .mk4 12 (some 17) (.bin .sub (.c (.i 1)) (.t 16)) (some (14, false)),
    .mk4 13 (some 18) (.nilck (.t 15)) (some (14, false)),
    .mk4 14 (some 19) (.faddr 0 (.t 18)) (some (14, false)),
    .mk4 15 (some 20) (.ixaA 2 7 (.t 19) (.t 17)) (some (14, false)),
    .mk4 16 (some 21) (.faddr 4 (.t 20)) (some (14, false)),
    .mk4 17 (some 22) (.load1 (.t 21)) (some (14, false)),
    .mk4 18 (some 23) (.pick (.t 14) (.c (.bool true)) (.t 22)) none,
    .mk4 19 (some 4) (.mv (.t 23)) none] [4]) (.ret)
def c36 : AFn := ⟨2, 24, [.tmp 4],
  (.seq (.region 0 [.mk4 0 (some 4) (.mv (.c (.bool false))) none] [0, 1]) (c36_0))⟩
def c37_0 : AC :=
  .seq (.region 0 [.mk4 0 (some 12) (.mv (.t 0)) none,
    .mk4 1 (some 13) (.mv (.t 1)) none,
    .mk4 2 (some 14) (.nilck (.t 12)) none,
    .mk4 3 (some 15) (.faddr 0 (.t 14)) none,
    .mk4 4 (some 16) (.ixaA 2 7 (.t 15) (.t 13)) none,
    .mk4 5 (some 17) (.faddr 4 (.t 16)) none,
    .mk4 6 none (.store 1 (.t 17) (.c (.bool true))) none] [0, 1]) (.region 0 [.mk4 0 (some 18) (.mv (.t 0)) none,
    .mk4 1 (some 19) (.mv (.t 1)) none,
    .mk4 2 (some 20) (.bin .sub (.c (.i 1)) (.t 19)) none,
    .mk4 3 (some 21) (.call 50 [(.t 18), (.t 20), (.c (.bool true)), (.c (.bool false))]) none] [])
def c37_1 : AC :=
  .seq (.region 0 [.mk4 0 (some 4) (.mv (.t 0)) none,
    .mk4 1 (some 5) (.mv (.t 1)) none,
    .mk4 2 (some 6) (.nilck (.t 4)) none,
    .mk4 3 (some 7) (.faddr 0 (.t 6)) none,
    .mk4 4 (some 8) (.ixaA 2 7 (.t 7) (.t 5)) none,
    .mk4 5 (some 9) (.faddr 4 (.t 8)) none,
    .mk4 6 (some 10) (.load1 (.t 9)) none,
    .mk4 7 (some 11) (.un .not (.t 10)) none] [0, 1, 11]) (.cond (.t 11) (c37_0) (.skip))
def c37 : AFn := ⟨2, 22, [],
  (c37_1)⟩
def c38_0 : AC :=
  .seq (.seq (.region 0 [.mk4 0 (some 3) (.mv (.t 0)) none,
    .mk4 1 (some 4) (.call 62 [(.t 3)]) none] [0, 4]) (.cond (.t 4) (.seq (.region 0 [.mk4 0 (some 2) (.mv (.c (.i 0))) none] [2]) (.ret)) (.skip))) (.seq (.region 0 [.mk4 0 (some 5) (.mv (.t 0)) none,
    .mk4 1 (some 6) (.nilck (.t 5)) none,
    .mk4 2 (some 7) (.faddr 2 (.t 6)) none,
    .mk4 3 (some 8) (.load1 (.t 7)) none,
    .mk4 4 (some 2) (.mv (.t 8)) none] [2]) (.ret))
def c38 : AFn := ⟨1, 9, [.tmp 2],
  (.seq (.region 0 [.mk4 0 (some 2) (.mv (.c (.i 0))) none] [0]) (c38_0))⟩
def c39_0 : AC :=
  .seq (.region 0 [.mk4 0 (some 5) (.mv (.t 0)) none,
    .mk4 1 (some 6) (.nilck (.t 5)) none,
    .mk4 2 (some 7) (.faddr 0 (.t 6)) none,
    .mk4 3 (some 8) (.load1 (.t 7)) none,
    .mk4 4 (some 9) (.lenL (.t 8)) none,
    .mk4 5 (some 10) (.mv (.t 0)) none,
    .mk4 6 (some 11) (.nilck (.t 10)) none,
    .mk4 7 (some 12) (.faddr 2 (.t 11)) none,
    .mk4 8 (some 13) (.load1 (.t 12)) none,
    .mk4 9 (some 14) (.bin .sub (.t 9) (.t 13)) none,
    .mk4 10 (some 2) (.mv (.t 14)) none] [2]) (.ret)
def c39 : AFn := ⟨1, 15, [.tmp 2],
  (.seq (.region 0 [.mk4 0 (some 2) (.mv (.c (.i 0))) none] [0]) (.seq (.seq (.region 0 [.mk4 0 (some 3) (.mv (.t 0)) none,
    .mk4 1 (some 4) (.call 62 [(.t 3)]) none] [0, 4]) (.cond (.t 4) (.seq (.region 0 [.mk4 0 (some 2) (.mv (.c (.i 0))) none] [2]) (.ret)) (.skip))) (c39_0)))⟩
def c40_0 : AC :=
  .region 0 [.mk4 0 (some 16) (.mv (.t 0)) none,
    .mk4 1 (some 17) (.mv (.t 1)) none,
    .mk4 2 (some 18) (.nilck (.t 16)) none,
    .mk4 3 (some 19) (.faddr 0 (.t 18)) none,
    .mk4 4 (some 20) (.ixaA 2 7 (.t 19) (.t 17)) none,
    .mk4 5 (some 21) (.faddr 0 (.t 20)) none,
    .mk4 6 none (.store 1 (.t 21) (.c (.i 3))) none] []
def c40_1 : AC :=
  .seq (.region 0 [.mk4 0 (some 4) (.mv (.t 0)) none,
    .mk4 1 (some 5) (.mv (.t 1)) none,
    .mk4 2 (some 6) (.bin .sub (.c (.i 1)) (.t 5)) none,
    .mk4 3 (some 7) (.mv (.t 0)) none,
    .mk4 4 (some 8) (.mv (.t 1)) none,
    .mk4 5 (some 9) (.nilck (.t 7)) none,
    .mk4 6 (some 10) (.faddr 0 (.t 9)) none,
    .mk4 7 (some 11) (.ixaA 2 7 (.t 10) (.t 8)) none,
    .mk4 8 (some 12) (.faddr 4 (.t 11)) none,
    .mk4 9 (some 13) (.load1 (.t 12)) none,
    .mk4 10 (some 14) (.un .not (.t 13)) none,
    .mk4 11 (some 15) (.call 50 [(.t 4), (.t 6), (.t 14), (.c (.bool true))]) none] [0, 1]) (c40_0)
def c40 : AFn := ⟨2, 22, [],
  (c40_1)⟩
def c41_0 : AC :=
  .seq (.region 0 [.mk4 0 (some 3) (.mv (.t 0)) none,
    .mk4 1 (some 4) (.eq .ptr false (.t 3) (.c (.ptr none))) none,
    .mk4 2 (some 5) (.mv (.t 4)) none,
    .mk4 3 (some 6) (.mv (.t 0)) (some (5, false)),
    .mk4 4 (some 7) (.nilck (.t 6)) (some (5, false)),
    .mk4 5 (some 8) (.faddr 289 (.t 7)) (some (5, false)),
    .mk4 6 (some 9) (.load1 (.t 8)) (some (5, false)),
    .mk4 7 (some 10) (.eq .ptr false (.t 9) (.c (.ptr none))) (some (5, false)),
    .mk4 8 (some 11) (.pick (.t 5) (.c (.bool true)) (.t 10)) none,
    .mk4 9 (some 2) (.mv (.t 11)) none] [2]) (.ret)
def c41 : AFn := ⟨1, 12, [.tmp 2],
  (.seq (.region 0 [.mk4 0 (some 2) (.mv (.c (.bool false))) none] [0]) (c41_0))⟩
def c42_0 : AC :=
  .seq (.region 0 [.mk4 0 (some 3) (.mv (.t 0)) none,
    .mk4 1 (some 4) (.bin .geq (.t 3) (.c (.i 1))) none,
    .mk4 2 (some 5) (.mv (.t 4)) none,
    .mk4 3 (some 6) (.mv (.t 0)) (some (5, true)),
    .mk4 4 (some 7) (.bin .leq (.t 6) (.c (.i 65536))) (some (5, true)),
    .mk4 5 (some 8) (.pick (.t 5) (.t 7) (.c (.bool false))) none,
    .mk4 6 (some 2) (.mv (.t 8)) none] [2]) (.ret)
def c42 : AFn := ⟨1, 9, [.tmp 2],
  (.seq (.region 0 [.mk4 0 (some 2) (.mv (.c (.bool false))) none] [0]) (c42_0))⟩
def c43_0 : AC :=
  .seq (.seq (.region 0 [.mk4 0 (some 3) (.mv (.t 0)) none,
    .mk4 1 (some 4) (.eq .slice false (.t 3) (.c (.nils))) none] [0, 4]) (.cond (.t 4) (.seq (.region 0 [.mk4 0 (some 2) (.mv (.c (.nils))) none] [2]) (.ret)) (.skip))) (.seq (.region 0 [.mk4 0 (some 5) (.bslice 1 0 [] []) none,
    .mk4 1 (some 6) (.mv (.t 0)) none,
    .mk4 2 (some 7) (.append 1 8 (.t 5) (.t 6)) none,
    .mk4 3 (some 2) (.mv (.t 7)) none] [2]) (.ret))
def c43 : AFn := ⟨1, 8, [.tmp 2],
  (.seq (.region 0 [.mk4 0 (some 2) (.mv (.c (.nils))) none] [0]) (c43_0))⟩
def c44 : AFn := ⟨1, 4, [.tmp 2],
  (.seq (.region 0 [.mk4 0 (some 1) (.box 1 (.t 0)) none,
    .mk4 1 (some 2) (.mv (.c (.nilfn))) none] [1]) (.seq (.region 0 [.mk4 0 (some 3) (.mkClo 63 [(.t 1)]) none,
    .mk4 1 (some 2) (.mv (.t 3)) none] [2]) (.ret)))⟩
def c45_0 : AC :=
  .cond (.t 48) (.region 0 [.mk4 0 (some 52) (.mv (.t 2)) none,
    .mk4 1 (some 53) (.mv (.t 3)) none,
    .mk4 2 (some 54) (.bin .sub (.c (.i 1)) (.t 53)) none,
    .mk4 3 (some 55) (.bslice 1 1 [.int .u8 0] [(0, (.c (.int .u8 1)))]) none,
    .mk4 4 (some 56) (.call 33 [(.t 52), (.t 54), (.t 55)]) none] []) (.skip)
def c45_1 : AC :=
  .region 0 [.mk4 0 (some 41) (.mv (.t 2)) none,
    .mk4 1 (some 42) (.mv (.t 3)) none,
    .mk4 2 (some 43) (.bin .sub (.c (.i 1)) (.t 42)) none,
    .mk4 3 (some 44) (.mv (.t 4)) none,
    .mk4 4 (some 45) (.call 49 [(.t 44)]) none,
    .mk4 5 (some 46) (.bin .gtr (.t 45) (.c (.i 0))) none,
    .mk4 6 (some 47) (.call 50 [(.t 41), (.t 43), (.c (.bool false)), (.t 46)]) none] []
def c45_2 : AC :=
  .seq (.region 0 [.mk4 0 (some 35) (.mv (.t 0)) none,
    .mk4 1 (some 36) (.nilck (.t 35)) none,
    .mk4 2 (some 37) (.faddr 289 (.t 36)) none,
    .mk4 3 (some 38) (.load1 (.t 37)) none,
    .mk4 4 (some 39) (.call 64 [(.t 38)]) none,
    .mk4 5 (some 40) (.bin .eql (.t 39) (.c (.i 0))) none,
    .mk4 6 (some 34) (.mv (.t 40)) none] [2, 3, 4, 34]) (.cond (.t 34) (c45_1) (.seq (.region 0 [.mk4 0 (some 49) (.mv (.t 4)) none,
    .mk4 1 (some 50) (.call 38 [(.t 49)]) none,
    .mk4 2 (some 51) (.bin .eql (.t 50) (.c (.i 0))) none,
    .mk4 3 (some 48) (.mv (.t 51)) none] [2, 3, 48]) (c45_0)))
def c45_3 : AC :=
  .seq (.region 0 [.mk4 0 (some 27) (.mv (.t 2)) none,
    .mk4 1 (some 28) (.mv (.t 3)) none,
    .mk4 2 (some 29) (.nilck (.t 27)) none,
    .mk4 3 (some 30) (.faddr 0 (.t 29)) none,
    .mk4 4 (some 31) (.ixaA 2 7 (.t 30) (.t 28)) none,
    .mk4 5 (some 32) (.faddr 2 (.t 31)) none,
    .mk4 6 (some 33) (.load1 (.t 32)) none,
    .mk4 7 (some 4) (.mv (.t 33)) none] [0, 2, 3, 4]) (.block 0 (c45_2))
def c45_4 : AC :=
  .seq (.region 0 [.mk4 0 (some 11) (.mv (.t 0)) none,
    .mk4 1 (some 12) (.nilck (.t 11)) none,
    .mk4 2 (some 13) (.faddr 288 (.t 12)) none,
    .mk4 3 (some 14) (.load1 (.t 13)) none,
    .mk4 4 (some 15) (.mv (.t 0)) none,
    .mk4 5 (some 16) (.nilck (.t 15)) none,
    .mk4 6 (some 17) (.faddr 291 (.t 16)) none,
    .mk4 7 (some 18) (.faddr 1 (.t 17)) none,
    .mk4 8 (some 19) (.load1 (.t 18)) none,
    .mk4 9 (some 20) (.ixaS 1 (.t 14) (.t 19)) none,
    .mk4 10 (some 21) (.load1 (.t 20)) none,
    .mk4 11 (some 22) (.mv (.t 0)) none,
    .mk4 12 (some 23) (.nilck (.t 22)) none,
    .mk4 13 (some 24) (.faddr 291 (.t 23)) none,
    .mk4 14 (some 25) (.faddr 2 (.t 24)) none,
    .mk4 15 (some 26) (.load1 (.t 25)) none,
    .mk4 16 (some 2) (.mv (.t 21)) none,
    .mk4 17 (some 3) (.mv (.t 26)) none] [0, 2, 3]) (c45_3)
def c45_5 : AC :=
  .seq (.seq (.region 0 [.mk4 0 (some 5) (.mv (.t 0)) none,
    .mk4 1 (some 6) (.nilck (.t 5)) none,
    .mk4 2 (some 7) (.faddr 291 (.t 6)) none,
    .mk4 3 (some 8) (.faddr 0 (.t 7)) none,
    .mk4 4 (some 9) (.load1 (.t 8)) none,
    .mk4 5 (some 10) (.un .not (.t 9)) none] [0, 10]) (.cond (.t 10) (.ret) (.skip))) (c45_4)
def c45 : AFn := ⟨1, 57, [],
  (c45_5)⟩
def c46_0 : AC :=
  .cond (.t 21) (.region 0 [.mk4 0 (some 22) (.mv (.t 0)) none,
    .mk4 1 (some 23) (.mv (.t 1)) none,
    .mk4 2 (some 24) (.nilck (.t 22)) none,
    .mk4 3 (some 25) (.faddr 32 (.t 24)) none,
    .mk4 4 (some 26) (.ixaA 32 1 (.t 25) (.t 23)) none,
    .mk4 5 none (.store 1 (.t 26) (.c (.i 0))) none] []) (.skip)
def c46_1 : AC :=
  .seq (.seq (.region 0 [.mk4 0 (some 14) (.mv (.t 0)) none,
    .mk4 1 (some 15) (.mv (.t 1)) none,
    .mk4 2 (some 16) (.mv (.t 2)) none,
    .mk4 3 (some 17) (.nilck (.t 14)) none,
    .mk4 4 (some 18) (.faddr 0 (.t 17)) none,
    .mk4 5 (some 19) (.ixaA 32 1 (.t 18) (.t 15)) none,
    .mk4 6 none (.store 1 (.t 19) (.t 16)) none] [0, 1, 2]) (.seq (.region 0 [.mk4 0 (some 20) (.mv (.t 2)) none,
    .mk4 1 (some 21) (.un .not (.t 20)) none] [0, 1, 21]) (c46_0))) (.seq (.region 0 [.mk4 0 (some 6) (.mv (.c (.i 0))) none] [6]) (.ret))
def c46_2 : AC :=
  .seq (.seq (.region 0 [.mk4 0 (some 8) (.mv (.t 0)) none,
    .mk4 1 (some 9) (.mv (.t 1)) none,
    .mk4 2 (some 10) (.call 65 [(.t 8), (.t 9)]) none,
    .mk4 3 (some 7) (.mv (.t 10)) none] [0, 1, 2, 7]) (.seq (.region 0 [.mk4 0 (some 11) (.mv (.t 7)) none,
    .mk4 1 (some 12) (.bin .neq (.t 11) (.c (.i 0))) none] [0, 1, 2, 7, 12]) (.cond (.t 12) (.seq (.region 0 [.mk4 0 (some 13) (.mv (.t 7)) none,
    .mk4 1 (some 6) (.mv (.t 13)) none] [6]) (.ret)) (.skip)))) (c46_1)
def c46 : AFn := ⟨3, 27, [.tmp 6],
  (.seq (.region 0 [.mk4 0 (some 6) (.mv (.c (.i 0))) none] [0, 1, 2]) (c46_2))⟩
def c47_0 : AC :=
  .region 0 [.mk4 0 (some 18) (.mv (.t 0)) none,
    .mk4 1 (some 19) (.mv (.t 1)) none,
    .mk4 2 (some 20) (.nilck (.t 18)) none,
    .mk4 3 (some 21) (.faddr 32 (.t 20)) none,
    .mk4 4 (some 22) (.ixaA 32 1 (.t 21) (.t 19)) none,
    .mk4 5 (some 23) (.load1 (.t 22)) none,
    .mk4 6 (some 24) (.mv (.t 0)) none,
    .mk4 7 (some 25) (.mv (.t 1)) none,
    .mk4 8 (some 26) (.nilck (.t 24)) none,
    .mk4 9 (some 27) (.faddr 32 (.t 26)) none,
    .mk4 10 (some 28) (.ixaA 32 1 (.t 27) (.t 25)) none,
    .mk4 11 (some 29) (.load1 (.t 28)) none,
    .mk4 12 (some 30) (.bin .sub (.c (.i 2147483647)) (.t 29)) none,
    .mk4 13 (some 31) (.minI [(.c (.i 1)), (.t 30)]) none,
    .mk4 14 (some 32) (.bin .add (.t 23) (.t 31)) none,
    .mk4 15 (some 33) (.nilck (.t 18)) none,
    .mk4 16 (some 34) (.faddr 32 (.t 33)) none,
    .mk4 17 (some 35) (.ixaA 32 1 (.t 34) (.t 19)) none,
    .mk4 18 none (.store 1 (.t 35) (.t 32)) none] []
def c47_1 : AC :=
  .seq (.seq (.region 0 [.mk4 0 (some 12) (.mv (.t 0)) none,
    .mk4 1 (some 13) (.mv (.t 1)) none,
    .mk4 2 (some 14) (.nilck (.t 12)) none,
    .mk4 3 (some 15) (.faddr 0 (.t 14)) none,
    .mk4 4 (some 16) (.ixaA 32 1 (.t 15) (.t 13)) none,
    .mk4 5 (some 17) (.load1 (.t 16)) none] [0, 1, 17]) (.cond (.t 17) (c47_0) (.skip))) (.seq (.region 0 [.mk4 0 (some 4) (.mv (.c (.i 0))) none] [4]) (.ret))
def c47_2 : AC :=
  .seq (.seq (.region 0 [.mk4 0 (some 6) (.mv (.t 0)) none,
    .mk4 1 (some 7) (.mv (.t 1)) none,
    .mk4 2 (some 8) (.call 65 [(.t 6), (.t 7)]) none,
    .mk4 3 (some 5) (.mv (.t 8)) none] [0, 1, 5]) (.seq (.region 0 [.mk4 0 (some 9) (.mv (.t 5)) none,
    .mk4 1 (some 10) (.bin .neq (.t 9) (.c (.i 0))) none] [0, 1, 5, 10]) (.cond (.t 10) (.seq (.region 0 [.mk4 0 (some 11) (.mv (.t 5)) none,
    .mk4 1 (some 4) (.mv (.t 11)) none] [4]) (.ret)) (.skip)))) (c47_1)
def c47 : AFn := ⟨2, 36, [.tmp 4],
  (.seq (.region 0 [.mk4 0 (some 4) (.mv (.c (.i 0))) none] [0, 1]) (c47_2))⟩
def c48_0 : AC :=
  .region 0 [.mk4 0 (some 20) (.mv (.t 0)) none,
    .mk4 1 (some 21) (.faddr 0 (.t 6)) none,
    .mk4 2 (some 22) (.load1 (.t 21)) none,
    .mk4 3 (some 23) (.nilck (.t 20)) none,
    .mk4 4 (some 24) (.faddr 32 (.t 23)) none,
    .mk4 5 (some 25) (.ixaA 32 1 (.t 24) (.t 22)) none,
    .mk4 6 none (.store 1 (.t 25) (.c (.i 0))) none] [0, 3, 14, 15, 16]
def c48_1 : AC :=
  .seq (.block 3 (.seq (.region 0 [.mk4 0 (some 18) (.ixaS 2 (.t 14) (.t 16)) none,
    .mk4 1 (some 19) (.loadN 2 (.t 18)) none,
    .mk4 2 (some 6) (.alloc 2 [.i 0, .i 0]) none,
    .mk4 3 none (.store 2 (.t 6) (.t 19)) none] [0, 3, 6, 14, 15, 16]) (c48_0))) (.region 0 [.mk4 0 (some 26) (.bin .add (.t 16) (.c (.i 1))) none,
    .mk4 1 (some 16) (.mv (.t 26)) none] [0, 3, 14, 15, 16])
def c48_2 : AC :=
  .rangeFunc (.t 8) [9] [3] (.region 0 [.mk4 0 (some 4) (.alloc 2 [.i 0, .i 0]) none,
    .mk4 1 none (.store 2 (.t 4) (.t 9)) none] [3, 4]) (.block 1 (.region 0 [.mk4 0 (some 10) (.load1 (.t 3)) none,
    .mk4 1 (some 11) (.loadN 2 (.t 4)) none,
    .mk4 2 (some 12) (.bslice 2 1 [.i 0, .i 0] [(0, (.t 11))]) none,
    .mk4 3 (some 13) (.append 2 16 (.t 10) (.t 12)) none,
    .mk4 4 none (.store 1 (.t 3) (.t 13)) none] []))
def c48_3 : AC :=
  .seq (.seq (.region 0 [.mk4 0 (some 14) (.load1 (.t 3)) none,
    .mk4 1 (some 15) (.lenL (.t 14)) none,
    .mk4 2 (some 16) (.mv (.c (.i 0))) none] [0, 3, 14, 15, 16]) (.block 2 (.loop [0, 3, 14, 15, 16] (.seq (.region 0 [.mk4 0 (some 17) (.bin .lss (.t 16) (.t 15)) none] [0, 3, 14, 15, 16, 17]) (.seq (.cond (.t 17) (.skip) (.exit 2)) (c48_1)))))) (.seq (.region 0 [.mk4 0 (some 27) (.load1 (.t 3)) none,
    .mk4 1 (some 2) (.mv (.t 27)) none] [2]) (.ret))
def c48 : AFn := ⟨1, 28, [.tmp 2],
  (.seq (.region 0 [.mk4 0 (some 2) (.mv (.c (.nils))) none] [0]) (.seq (.region 0 [.mk4 0 (some 3) (.alloc 1 [.nils]) none] [0, 3]) (.seq (.seq (.region 0 [.mk4 0 (some 7) (.mv (.t 0)) none,
    .mk4 1 (some 8) (.call 66 [(.t 7)]) none] [0, 3, 8]) (.block 0 (c48_2))) (c48_3))))⟩
def c49_0 : AC :=
  .seq (.region 0 [.mk4 0 (some 2) (.mv (.c (.i 0))) none] [0]) (.seq (.region 0 [.mk4 0 (some 3) (.mv (.t 0)) none,
    .mk4 1 (some 4) (.mv (.t 0)) none,
    .mk4 2 (some 5) (.call 38 [(.t 4)]) none,
    .mk4 3 (some 6) (.call 61 [(.t 3), (.t 5)]) none,
    .mk4 4 (some 7) (.lenL (.t 6)) none,
    .mk4 5 (some 2) (.mv (.t 7)) none] [2]) (.ret))
def c49 : AFn := ⟨1, 8, [.tmp 2],
  (c49_0)⟩
def c50_0 : AC :=
  .region 0 [.mk4 0 (some 41) (.mv (.t 0)) none,
    .mk4 1 (some 42) (.mv (.t 1)) none,
    .mk4 2 (some 43) (.nilck (.t 41)) none,
    .mk4 3 (some 44) (.faddr 0 (.t 43)) none,
    .mk4 4 (some 45) (.ixaA 2 7 (.t 44) (.t 42)) none,
    .mk4 5 (some 46) (.faddr 6 (.t 45)) none,
    .mk4 6 (some 47) (.load1 (.t 46)) none,
    .mk4 7 (some 48) (.bin .add (.t 47) (.c (.int .u64 1))) none,
    .mk4 8 (some 49) (.nilck (.t 41)) none,
    .mk4 9 (some 50) (.faddr 0 (.t 49)) none,
    .mk4 10 (some 51) (.ixaA 2 7 (.t 50) (.t 42)) none,
    .mk4 11 (some 52) (.faddr 6 (.t 51)) none,
    .mk4 12 none (.store 1 (.t 52) (.t 48)) none] []
def c50_1 : AC :=
  .region 0 [.mk4 0 (some 19) (.mv (.t 0)) none,
    .mk4 1 (some 20) (.mv (.t 1)) none,
    .mk4 2 (some 21) (.nilck (.t 19)) none,
    .mk4 3 (some 22) (.faddr 0 (.t 21)) none,
    .mk4 4 (some 23) (.ixaA 2 7 (.t 22) (.t 20)) none,
    .mk4 5 (some 24) (.faddr 5 (.t 23)) none,
    .mk4 6 (some 25) (.load1 (.t 24)) none,
    .mk4 7 (some 26) (.bin .add (.t 25) (.c (.int .u64 1))) none,
    .mk4 8 (some 27) (.nilck (.t 19)) none,
    .mk4 9 (some 28) (.faddr 0 (.t 27)) none,
    .mk4 10 (some 29) (.ixaA 2 7 (.t 28) (.t 20)) none,
    .mk4 11 (some 30) (.faddr 5 (.t 29)) none,
    .mk4 12 none (.store 1 (.t 30) (.t 26)) none] [0, 1, 3]
def c50_2 : AC :=
  .seq (.region 0 [.mk4 0 (some 31) (.mv (.t 3)) none,
    .mk4 1 (some 32) (.mv (.t 31)) none,
    .mk4 2 (some 33) (.mv (.t 0)) (some (32, true)),
    .mk4 3 (some 34) (.mv (.t 1)) (some (32, true)),
    .mk4 4 (some 35) (.nilck (.t 33)) (some (32, true)),
    .mk4 5 (some 36) (.faddr 0 (.t 35)) (some (32, true)),
    .mk4 6 (some 37) (.ixaA 2 7 (.t 36) (.t 34)) (some (32, true)),
    .mk4 7 (some 38) (.faddr 3 (.t 37)) (some (32, true)),
    .mk4 8 (some 39) (.load1 (.t 38)) (some (32, true)),
    .mk4 9 (some 40) (.pick (.t 32) (.t 39) (.c (.bool false))) none] [0, 1, 40]) (.cond (.t 40) (c50_0) (.skip))
def c50_3 : AC :=
  .seq (.seq (.region 0 [.mk4 0 (some 8) (.mv (.t 2)) none,
    .mk4 1 (some 9) (.mv (.t 8)) none,
    .mk4 2 (some 10) (.mv (.t 0)) (some (9, true)),
    .mk4 3 (some 11) (.mv (.t 1)) (some (9, true)),
    .mk4 4 (some 12) (.nilck (.t 10)) (some (9, true)),
    .mk4 5 (some 13) (.faddr 0 (.t 12)) (some (9, true)),
    .mk4 6 (some 14) (.ixaA 2 7 (.t 13) (.t 11)) (some (9, true)),
    .mk4 7 (some 15) (.faddr 2 (.t 14)) (some (9, true)),
    .mk4 8 (some 16) (.load1 (.t 15)) (some (9, true)),
    .mk4 9 (some 17) (.eq .ptr true (.t 16) (.c (.ptr none))) (some (9, true)),
    .mk4 10 (some 18) (.pick (.t 9) (.t 17) (.c (.bool false))) none] [0, 1, 3, 18]) (.cond (.t 18) (c50_1) (.skip))) (c50_2)
def c50 : AFn := ⟨4, 53, [],
  (c50_3)⟩
def c51 : AFn := ⟨2, 8, [.tmp 4],
  (.seq (.region 0 [.mk4 0 (some 4) (.mv (.c (.str []))) none] [0, 1]) (.seq (.region 0 [.mk4 0 (some 5) (.mv (.t 0)) none,
    .mk4 1 (some 6) (.mv (.t 1)) none,
    .mk4 2 (some 7) (.call 67 [(.t 5), (.t 6)]) none,
    .mk4 3 (some 4) (.mv (.t 7)) none] [4]) (.ret)))⟩
def c52 : AFn := ⟨1, 5, [.tmp 2],
  (.seq (.region 0 [.mk4 0 (some 2) (.mv (.c (.str []))) none] [0]) (.seq (.region 0 [.mk4 0 (some 3) (.mv (.t 0)) none,
    .mk4 1 (some 4) (.call 68 [(.t 3)]) none,
    .mk4 2 (some 2) (.mv (.t 4)) none] [2]) (.ret)))⟩
def c53_0 : AC :=
  .seq (.region 1 [.mk4 0 (some 21) (.mv (.t 3)) none,
    .mk4 1 (some 22) (.faddr 2 (.t 1)) none,
    .mk4 2 (some 23) (.load1 (.t 22)) none,
    .mk4 3 (some 24) (.faddr 2 (.t 1)) none,
    .mk4 4 (some 25) (.load1 (.t 24)) none,
    .mk4 9 (some 30) (.faddr 2 (.t 1)) none,
    .mk4 10 (some 31) (.load1 (.t 30)) none,
    .mk4 12 (some 33) (.faddr 2 (.t 1)) none,
    .mk4 13 (some 34) (.load1 (.t 33)) none,
    ⟨5, (some 26), .call 38 [(.t 25)], none, none, [(23, .load1 (.t 22), none), (31, .load1 (.t 30), none), (34, .load1 (.t 33), none)]⟩,
    ⟨6, (some 27), .call 70 [(.t 23), (.t 26)], none, none, [(31, .load1 (.t 30), none), (34, .load1 (.t 33), none)]⟩,
    ⟨7, (some 28), .call 69 [(.t 27)], none, none, [(31, .load1 (.t 30), none), (34, .load1 (.t 33), none)]⟩,
    .mk4 8 (some 29) (.bin .add (.t 28) (.c (.str [47]))) none,
    ⟨11, (some 32), .call 38 [(.t 31)], none, none, [(34, .load1 (.t 33), none)]⟩,
    .mk4 14 (some 35) (.call 39 [(.t 34)]) none,
    .mk4 15 (some 36) (.bin .add (.t 32) (.t 35)) none,
    .mk4 16 (some 37) (.call 52 [(.t 36)]) none,
    .mk4 17 (some 38) (.bin .add (.t 29) (.t 37)) none,
    ⟨18, (some 39), .bslice 1 1 [.str []] [(0, (.t 38))], none, some 0, []⟩,
    .mk4 19 (some 40) (.append 1 16 (.t 21) (.t 39)) none,
    .mk4 20 (some 2) (.mv (.t 40)) none] [2]) (.ret)
def c53_1 : AC :=
  .seq (.seq (.region 0 [.mk4 0 (some 15) (.faddr 2 (.t 1)) none,
    .mk4 1 (some 16) (.load1 (.t 15)) none,
    .mk4 2 (some 17) (.eq .ptr false (.t 16) (.c (.ptr none))) none] [1, 3, 17]) (.cond (.t 17) (.seq (.region 0 [.mk4 0 (some 18) (.mv (.t 3)) none,
    .mk4 1 (some 19) (.bslice 1 1 [.str []] [(0, (.c (.str [45])))]) none,
    .mk4 2 (some 20) (.append 1 16 (.t 18) (.t 19)) none,
    .mk4 3 (some 2) (.mv (.t 20)) none] [2]) (.ret)) (.skip))) (c53_0)
def c53_2 : AC :=
  .seq (.seq (.region 0 [.mk4 0 (some 10) (.faddr 4 (.t 1)) none,
    .mk4 1 (some 11) (.load1 (.t 10)) none] [1, 3, 11]) (.cond (.t 11) (.region 0 [.mk4 0 (some 12) (.mv (.t 3)) none,
    .mk4 1 (some 13) (.bslice 1 1 [.str []] [(0, (.c (.str [115, 104, 117, 116])))]) none,
    .mk4 2 (some 14) (.append 1 16 (.t 12) (.t 13)) none,
    .mk4 3 (some 3) (.mv (.t 14)) none] [1, 3]) (.skip))) (c53_1)
def c53_3 : AC :=
  .seq (.region 0 [.mk4 0 (some 4) (.bslice 1 4 [.str [], .str [], .str [], .str []] [(0, (.c (.str [110, 111, 110, 101]))), (1, (.c (.str [105, 110]))), (2, (.c (.str [111, 117, 116]))), (3, (.c (.str [99, 108, 111, 115, 101, 100])))]) none,
    .mk4 1 (some 5) (.faddr 0 (.t 1)) none,
    .mk4 2 (some 6) (.load1 (.t 5)) none,
    .mk4 3 (some 7) (.ixaS 1 (.t 4) (.t 6)) none,
    .mk4 4 (some 8) (.load1 (.t 7)) none,
    .mk4 5 (some 9) (.bslice 1 1 [.str []] [(0, (.t 8))]) none,
    .mk4 6 (some 3) (.mv (.t 9)) none] [1, 3]) (c53_2)
def c53 : AFn := ⟨1, 41, [.tmp 2],
  (.seq (.region 0 [.mk4 0 (some 1) (.box 7 (.t 0)) none,
    .mk4 1 (some 2) (.mv (.c (.nils))) none] [1]) (c53_3))⟩
def c54_0 : AC :=
  .seq (.region 0 [.mk4 0 (some 67) (.ixaS 1 (.t 63) (.t 65)) none,
    .mk4 1 (some 68) (.load1 (.t 67)) none,
    .mk4 2 (some 10) (.mv (.t 68)) none] [1, 8, 10, 63, 64, 65]) (.seq (.region 0 [.mk4 0 (some 69) (.mv (.t 1)) none,
    .mk4 1 (some 70) (.call 72 [(.t 8), (.t 69)]) none] [1, 8, 10, 63, 64, 65]) (.region 0 [.mk4 0 (some 71) (.mv (.t 10)) none,
    .mk4 1 (some 72) (.call 72 [(.t 8), (.t 71)]) none] [1, 8, 63, 64, 65]))
def c54_1 : AC :=
  .loop [1, 8, 63, 64, 65] (.seq (.region 0 [.mk4 0 (some 66) (.bin .lss (.t 65) (.t 64)) none] [1, 8, 63, 64, 65, 66]) (.seq (.cond (.t 66) (.skip) (.exit 3)) (.seq (.block 4 (c54_0)) (.region 0 [.mk4 0 (some 73) (.bin .add (.t 65) (.c (.i 1))) none,
    .mk4 1 (some 65) (.mv (.t 73)) none] [1, 8, 63, 64, 65]))))
def c54_2 : AC :=
  .seq (.seq (.region 0 [.mk4 0 (some 62) (.mv (.t 0)) none,
    .mk4 1 (some 63) (.slice 1 (.t 62) (some (.c (.i 1))) none none) none,
    .mk4 2 (some 64) (.lenL (.t 63)) none,
    .mk4 3 (some 65) (.mv (.c (.i 0))) none] [1, 8, 63, 64, 65]) (.block 3 (c54_1))) (.seq (.region 0 [.mk4 0 (some 74) (.call 73 [(.t 8)]) none,
    .mk4 1 (some 4) (.mv (.t 74)) none] [4]) (.ret))
def c54_3 : AC :=
  .seq (.region 0 [.mk4 0 (some 56) (.mv (.t 5)) none,
    .mk4 1 (some 57) (.call 71 [(.t 8), (.t 56)]) none] [0, 1, 8]) (.seq (.region 0 [.mk4 0 (some 58) (.mv (.t 0)) none,
    .mk4 1 (some 59) (.ixaS 1 (.t 58) (.c (.i 0))) none,
    .mk4 2 (some 60) (.load1 (.t 59)) none,
    .mk4 3 (some 61) (.call 72 [(.t 8), (.t 60)]) none] [0, 1, 8]) (c54_2))
def c54_4 : AC :=
  .cond (.t 49) (.region 0 [.mk4 0 (some 50) (.mkIface 9 (.c (.str [115, 116, 114, 105, 110, 103, 115, 58, 32, 74, 111, 105, 110, 32, 111, 117, 116, 112, 117, 116, 32, 108, 101, 110, 103, 116, 104, 32, 111, 118, 101, 114, 102, 108, 111, 119]))) none,
    .mk4 1 none (.fail) none] [0, 1, 5, 7, 39, 40, 41]) (.skip)
def c54_5 : AC :=
  .seq (.seq (.region 0 [.mk4 0 (some 45) (.mv (.t 7)) none,
    .mk4 1 (some 46) (.lenS (.t 45)) none,
    .mk4 2 (some 47) (.mv (.t 5)) none,
    .mk4 3 (some 48) (.bin .sub (.c (.i 9223372036854775807)) (.t 47)) none,
    .mk4 4 (some 49) (.bin .gtr (.t 46) (.t 48)) none] [0, 1, 5, 7, 39, 40, 41, 49]) (c54_4)) (.region 0 [.mk4 0 (some 51) (.mv (.t 5)) none,
    .mk4 1 (some 52) (.mv (.t 7)) none,
    .mk4 2 (some 53) (.lenS (.t 52)) none,
    .mk4 3 (some 54) (.bin .add (.t 51) (.t 53)) none,
    .mk4 4 (some 5) (.mv (.t 54)) none] [0, 1, 5, 39, 40, 41])
def c54_6 : AC :=
  .seq (.block 2 (.seq (.region 0 [.mk4 0 (some 43) (.ixaS 1 (.t 39) (.t 41)) none,
    .mk4 1 (some 44) (.load1 (.t 43)) none,
    .mk4 2 (some 7) (.mv (.t 44)) none] [0, 1, 5, 7, 39, 40, 41]) (c54_5))) (.region 0 [.mk4 0 (some 55) (.bin .add (.t 41) (.c (.i 1))) none,
    .mk4 1 (some 41) (.mv (.t 55)) none] [0, 1, 5, 39, 40, 41])
def c54_7 : AC :=
  .region 0 [.mk4 0 (some 31) (.mv (.t 5)) none,
    .mk4 1 (some 32) (.mv (.t 1)) none,
    .mk4 2 (some 33) (.lenS (.t 32)) none,
    .mk4 3 (some 34) (.mv (.t 0)) none,
    .mk4 4 (some 35) (.lenL (.t 34)) none,
    .mk4 5 (some 36) (.bin .sub (.t 35) (.c (.i 1))) none,
    .mk4 6 (some 37) (.bin .mul (.t 33) (.t 36)) none,
    .mk4 7 (some 38) (.bin .add (.t 31) (.t 37)) none,
    .mk4 8 (some 5) (.mv (.t 38)) none] [0, 1, 5]
def c54_8 : AC :=
  .seq (.seq (.region 0 [.mk4 0 (some 23) (.mv (.t 1)) none,
    .mk4 1 (some 24) (.lenS (.t 23)) none,
    .mk4 2 (some 25) (.mv (.t 0)) none,
    .mk4 3 (some 26) (.lenL (.t 25)) none,
    .mk4 4 (some 27) (.bin .sub (.t 26) (.c (.i 1))) none,
    .mk4 5 (some 28) (.bin .quo (.c (.i 9223372036854775807)) (.t 27)) none,
    .mk4 6 (some 29) (.bin .geq (.t 24) (.t 28)) none] [0, 1, 5, 29]) (.cond (.t 29) (.region 0 [.mk4 0 (some 30) (.mkIface 9 (.c (.str [115, 116, 114, 105, 110, 103, 115, 58, 32, 74, 111, 105, 110, 32, 111, 117, 116, 112, 117, 116, 32, 108, 101, 110, 103, 116, 104, 32, 111, 118, 101, 114, 102, 108, 111, 119]))) none,
    .mk4 1 none (.fail) none] [0, 1, 5]) (.skip))) (c54_7)
def c54_9 : AC :=
  .seq (.seq (.region 0 [.mk4 0 (some 39) (.mv (.t 0)) none,
    .mk4 1 (some 40) (.lenL (.t 39)) none,
    .mk4 2 (some 41) (.mv (.c (.i 0))) none] [0, 1, 5, 39, 40, 41]) (.block 1 (.loop [0, 1, 5, 39, 40, 41] (.seq (.region 0 [.mk4 0 (some 42) (.bin .lss (.t 41) (.t 40)) none] [0, 1, 5, 39, 40, 41, 42]) (.seq (.cond (.t 42) (.skip) (.exit 1)) (c54_6)))))) (.seq (.region 0 [.mk4 0 (some 8) (.alloc 2 [.ptr none, .nils]) none] [0, 1, 5, 8]) (c54_3))
def c54_10 : AC :=
  .seq (.region 0 [.mk4 0 (some 16) (.bin .eql (.t 12) (.c (.i 1))) none,
    .mk4 1 (some 15) (.mv (.t 16)) none] [0, 1, 15]) (.cond (.t 15) (.seq (.region 0 [.mk4 0 (some 17) (.mv (.t 0)) none,
    .mk4 1 (some 18) (.ixaS 1 (.t 17) (.c (.i 0))) none,
    .mk4 2 (some 19) (.load1 (.t 18)) none,
    .mk4 3 (some 4) (.mv (.t 19)) none] [4]) (.ret)) (.skip))
def c54_11 : AC :=
  .seq (.seq (.region 0 [.mk4 0 (some 11) (.mv (.t 0)) none,
    .mk4 1 (some 12) (.lenL (.t 11)) none] [0, 1, 12]) (.block 0 (.seq (.region 0 [.mk4 0 (some 14) (.bin .eql (.t 12) (.c (.i 0))) none,
    .mk4 1 (some 13) (.mv (.t 14)) none] [0, 1, 12, 13]) (.cond (.t 13) (.seq (.region 0 [.mk4 0 (some 4) (.mv (.c (.str []))) none] [4]) (.ret)) (c54_10))))) (.seq (.region 0 [.mk4 0 (some 5) (.mv (.c (.i 0))) none] [0, 1, 5]) (.seq (.seq (.region 0 [.mk4 0 (some 20) (.mv (.t 1)) none,
    .mk4 1 (some 21) (.lenS (.t 20)) none,
    .mk4 2 (some 22) (.bin .gtr (.t 21) (.c (.i 0))) none] [0, 1, 5, 22]) (.cond (.t 22) (c54_8) (.skip))) (c54_9)))
def c54 : AFn := ⟨2, 75, [.tmp 4],
  (.seq (.region 0 [.mk4 0 (some 4) (.mv (.c (.str []))) none] [0, 1]) (c54_11))⟩
def c55_0 : AC :=
  .seq (.region 0 [.mk4 0 (some 5) (.mv (.t 0)) none,
    .mk4 1 (some 6) (.mv (.t 1)) none,
    .mk4 2 (some 7) (.call 65 [(.t 5), (.t 6)]) none,
    .mk4 3 (some 8) (.bin .eql (.t 7) (.c (.i 0))) none,
    .mk4 4 (some 9) (.mv (.t 8)) none,
    .mk4 5 (some 10) (.mv (.t 0)) (some (9, true)),
    .mk4 6 (some 11) (.mv (.t 1)) (some (9, true)),
    .mk4 7 (some 12) (.nilck (.t 10)) (some (9, true)),
    .mk4 8 (some 13) (.faddr 0 (.t 12)) (some (9, true)),
    .mk4 9 (some 14) (.ixaA 32 1 (.t 13) (.t 11)) (some (9, true)),
    .mk4 10 (some 15) (.load1 (.t 14)) (some (9, true)),
    .mk4 11 (some 16) (.pick (.t 9) (.t 15) (.c (.bool false))) none,
    .mk4 12 (some 4) (.mv (.t 16)) none] [4]) (.ret)
def c55 : AFn := ⟨2, 17, [.tmp 4],
  (.seq (.region 0 [.mk4 0 (some 4) (.mv (.c (.bool false))) none] [0, 1]) (c55_0))⟩
def c56_0 : AC :=
  .seq (.region 0 [.mk4 0 (some 9) (.mv (.t 0)) none,
    .mk4 1 (some 10) (.mv (.t 1)) none,
    .mk4 2 (some 11) (.nilck (.t 9)) none,
    .mk4 3 (some 12) (.faddr 32 (.t 11)) none,
    .mk4 4 (some 13) (.ixaA 32 1 (.t 12) (.t 10)) none,
    .mk4 5 (some 14) (.load1 (.t 13)) none,
    .mk4 6 (some 4) (.mv (.t 14)) none] [4]) (.ret)
def c56_1 : AC :=
  .seq (.seq (.region 0 [.mk4 0 (some 5) (.mv (.t 0)) none,
    .mk4 1 (some 6) (.mv (.t 1)) none,
    .mk4 2 (some 7) (.call 65 [(.t 5), (.t 6)]) none,
    .mk4 3 (some 8) (.bin .neq (.t 7) (.c (.i 0))) none] [0, 1, 8]) (.cond (.t 8) (.seq (.region 0 [.mk4 0 (some 4) (.mv (.c (.i 0))) none] [4]) (.ret)) (.skip))) (c56_0)
def c56 : AFn := ⟨2, 15, [.tmp 4],
  (.seq (.region 0 [.mk4 0 (some 4) (.mv (.c (.i 0))) none] [0, 1]) (c56_1))⟩
def c57_0 : AC :=
  .seq (.region 0 [.mk4 0 (some 10) (.mv (.t 0)) none,
    .mk4 1 (some 11) (.mkSlice 1 1 [.int .u8 0] (.t 10) (.t 10)) none,
    .mk4 2 (some 12) (.build [.nils, .i 0, .i 0, .int .u64 0, .int .u64 0, .bool false] [(0, 1, (.t 11)), (5, 1, (.c (.bool true)))]) none,
    .mk4 3 (some 13) (.box 6 (.t 12)) none,
    .mk4 4 (some 2) (.mv (.t 13)) none,
    .mk4 5 (some 3) (.mv (.c (.i 0))) none] [2, 3]) (.ret)
def c57_1 : AC :=
  .seq (.seq (.region 0 [.mk4 0 (some 4) (.mv (.t 0)) none,
    .mk4 1 (some 5) (.bin .lss (.t 4) (.c (.i 0))) none,
    .mk4 2 (some 6) (.mv (.t 5)) none,
    .mk4 3 (some 7) (.mv (.t 0)) (some (6, false)),
    .mk4 4 (some 8) (.bin .gtr (.t 7) (.c (.i 65536))) (some (6, false)),
    .mk4 5 (some 9) (.pick (.t 6) (.c (.bool true)) (.t 8)) none] [0, 9]) (.cond (.t 9) (.seq (.region 0 [.mk4 0 (some 2) (.mv (.c (.ptr none))) none,
    .mk4 1 (some 3) (.mv (.c (.i 2))) none] [2, 3]) (.ret)) (.skip))) (c57_0)
def c57 : AFn := ⟨1, 14, [.tmp 2, .tmp 3],
  (.seq (.region 0 [.mk4 0 (some 2) (.mv (.c (.ptr none))) none,
    .mk4 1 (some 3) (.mv (.c (.i 0))) none] [0]) (c57_1))⟩
def c58_0 : AC :=
  .seq (.seq (.region 0 [.mk4 0 (some 11) (.load1 (.t 6)) none,
    .mk4 1 (some 12) (.lenL (.t 11)) none,
    .mk4 2 (some 13) (.load1 (.t 3)) none,
    .mk4 3 (some 14) (.bin .eql (.t 12) (.t 13)) none] [6, 7, 14]) (.cond (.t 14) (.exit 0) (.skip))) (.region 0 [.mk4 0 (some 15) (.load1 (.t 6)) none,
    .mk4 1 (some 16) (.mv (.t 7)) none,
    .mk4 2 (some 17) (.bslice 1 1 [.i 0] [(0, (.t 16))]) none,
    .mk4 3 (some 18) (.append 1 8 (.t 15) (.t 17)) none,
    .mk4 4 none (.store 1 (.t 6) (.t 18)) none] [])
def c58_1 : AC :=
  .seq (.region 0 [.mk4 0 (some 19) (.load1 (.t 6)) none,
    .mk4 1 (some 20) (.load1 (.t 6)) none,
    .mk4 2 (some 21) (.lenL (.t 20)) none,
    .mk4 3 (some 22) (.load1 (.t 3)) none,
    .mk4 4 (some 23) (.bin .eql (.t 21) (.t 22)) none,
    .mk4 5 (some 24) (.mv (.t 23)) none,
    .mk4 6 (some 25) (.mv (.t 0)) (some (24, true)),
    .mk4 7 (some 26) (.nilck (.t 25)) (some (24, true)),
    .mk4 8 (some 27) (.faddr 288 (.t 26)) (some (24, true)),
    .mk4 9 (some 28) (.load1 (.t 27)) (some (24, true)),
    .mk4 10 (some 29) (.lenL (.t 28)) (some (24, true)),
    .mk4 11 (some 30) (.bin .lss (.t 29) (.c (.i 1000))) (some (24, true)),
    .mk4 12 (some 31) (.pick (.t 24) (.t 30) (.c (.bool false))) none,
    .mk4 13 (some 4) (.mv (.t 19)) none,
    .mk4 14 (some 5) (.mv (.t 31)) none] [4, 5]) (.ret)
def c58_2 : AC :=
  .scope (.seq (.region 0 [.mk4 0 (some 6) (.alloc 1 [.nils]) none] [0, 3, 6]) (.seq (.label 0) (.seq (.seq (.region 0 [.mk4 0 (some 8) (.mv (.t 0)) none,
    .mk4 1 (some 9) (.call 44 [(.t 8)]) none] [0, 3, 6, 9]) (.block 0 (.rangeFunc (.t 9) [10] [3, 6] (.region 0 [.mk4 0 (some 7) (.mv (.t 10)) none] [3, 6, 7]) (.block 1 (c58_0))))) (c58_1))))
def c58 : AFn := ⟨2, 32, [.tmp 4, .tmp 5],
  (.seq (.region 0 [.mk4 0 (some 3) (.box 1 (.t 1)) none,
    .mk4 1 (some 4) (.mv (.c (.nils))) none,
    .mk4 2 (some 5) (.mv (.c (.bool false))) none] [0, 3]) (c58_2))⟩
def c59_0 : AC :=
  .region 0 [.mk4 0 (some 28) (.mv (.t 0)) none,
    .mk4 1 (some 29) (.mv (.t 7)) none,
    .mk4 2 (some 30) (.mv (.t 0)) none,
    .mk4 3 (some 31) (.nilck (.t 30)) none,
    .mk4 4 (some 32) (.faddr 288 (.t 31)) none,
    .mk4 5 (some 33) (.load1 (.t 32)) none,
    .mk4 6 (some 34) (.lenL (.t 33)) none,
    .mk4 7 (some 35) (.mv (.t 6)) none,
    .mk4 8 (some 36) (.build [.bool false, .i 0, .i 0] [(0, 1, (.c (.bool true))), (1, 1, (.t 34)), (2, 1, (.t 35))]) none,
    .mk4 9 (some 37) (.nilck (.t 28)) none,
    .mk4 10 (some 38) (.faddr 0 (.t 37)) none,
    .mk4 11 (some 39) (.ixaA 96 3 (.t 38) (.t 29)) none,
    .mk4 12 none (.store 3 (.t 39) (.t 36)) none] [0, 1, 8, 9, 10]
def c59_1 : AC :=
  .seq (.region 0 [.mk4 0 (some 15) (.mv (.t 1)) none,
    .mk4 1 (some 16) (.mv (.t 6)) none,
    .mk4 2 (some 17) (.mv (.t 1)) none,
    .mk4 3 (some 18) (.mv (.t 6)) none,
    .mk4 4 (some 19) (.mv (.t 7)) none,
    .mk4 5 (some 20) (.nilck (.t 15)) none,
    .mk4 6 (some 21) (.faddr 0 (.t 20)) none,
    .mk4 7 (some 22) (.ixaA 2 7 (.t 21) (.t 16)) none,
    .mk4 8 (some 23) (.faddr 0 (.t 22)) none,
    .mk4 10 (some 24) (.nilck (.t 17)) none,
    .mk4 11 (some 25) (.faddr 0 (.t 24)) none,
    .mk4 9 none (.store 1 (.t 23) (.c (.i 1))) none,
    .mk4 12 (some 26) (.ixaA 2 7 (.t 25) (.t 18)) none,
    .mk4 13 (some 27) (.faddr 1 (.t 26)) none,
    .mk4 14 none (.store 1 (.t 27) (.t 19)) none] [0, 1, 6, 7, 8, 9, 10]) (c59_0)
def c59_2 : AC :=
  .seq (.block 1 (.seq (.region 0 [.mk4 0 (some 12) (.mv (.t 10)) none,
    .mk4 1 (some 13) (.ixaS 1 (.t 8) (.t 10)) none,
    .mk4 2 (some 14) (.load1 (.t 13)) none,
    .mk4 3 (some 6) (.mv (.t 12)) none,
    .mk4 4 (some 7) (.mv (.t 14)) none] [0, 1, 6, 7, 8, 9, 10]) (c59_1))) (.region 0 [.mk4 0 (some 40) (.bin .add (.t 10) (.c (.i 1))) none,
    .mk4 1 (some 10) (.mv (.t 40)) none] [0, 1, 8, 9, 10])
def c59_3 : AC :=
  .region 0 [.mk4 0 (some 41) (.mv (.t 0)) none,
    .mk4 1 (some 42) (.mv (.t 0)) none,
    .mk4 2 (some 43) (.nilck (.t 42)) none,
    .mk4 3 (some 44) (.faddr 288 (.t 43)) none,
    .mk4 4 (some 45) (.load1 (.t 44)) none,
    .mk4 5 (some 46) (.mv (.t 1)) none,
    .mk4 6 (some 47) (.bslice 1 1 [.ptr none] [(0, (.t 46))]) none,
    .mk4 7 (some 48) (.append 1 8 (.t 45) (.t 47)) none,
    .mk4 8 (some 49) (.nilck (.t 41)) none,
    .mk4 9 (some 50) (.faddr 288 (.t 49)) none,
    .mk4 10 none (.store 1 (.t 50) (.t 48)) none] []
def c59_4 : AC :=
  .seq (.seq (.region 0 [.mk4 0 (some 8) (.mv (.t 2)) none,
    .mk4 1 (some 9) (.lenL (.t 8)) none,
    .mk4 2 (some 10) (.mv (.c (.i 0))) none] [0, 1, 8, 9, 10]) (.block 0 (.loop [0, 1, 8, 9, 10] (.seq (.region 0 [.mk4 0 (some 11) (.bin .lss (.t 10) (.t 9)) none] [0, 1, 8, 9, 10, 11]) (.seq (.cond (.t 11) (.skip) (.exit 0)) (c59_2)))))) (c59_3)
def c59 : AFn := ⟨3, 51, [],
  (c59_4)⟩
def c60_0 : AC :=
  .seq (.region 0 [.mk4 0 (some 46) (.mv (.t 0)) none,
    .mk4 1 (some 47) (.nilck (.t 46)) none,
    .mk4 2 (some 48) (.faddr 3 (.t 47)) none,
    .mk4 3 (some 49) (.load1 (.t 48)) none,
    .mk4 4 (some 50) (.mv (.t 1)) none,
    .mk4 5 (some 51) (.lenL (.t 50)) none,
    .mk4 6 (some 52) (.convInt .u64 (.t 51)) none,
    .mk4 7 (some 53) (.bin .add (.t 49) (.t 52)) none,
    .mk4 8 (some 54) (.nilck (.t 46)) none,
    .mk4 9 (some 55) (.faddr 3 (.t 54)) none,
    .mk4 10 none (.store 1 (.t 55) (.t 53)) none] [1]) (.seq (.region 0 [.mk4 0 (some 56) (.mv (.t 1)) none,
    .mk4 1 (some 57) (.lenL (.t 56)) none,
    .mk4 2 (some 4) (.mv (.t 57)) none] [4]) (.ret))
def c60_1 : AC :=
  .region 0 [.mk4 0 (some 32) (.load1 (.t 5)) none,
    .mk4 1 (some 33) (.mv (.t 6)) none,
    .mk4 2 (some 34) (.load1 (.t 5)) none,
    ⟨3, (some 35), .copy 1 (.t 33) (.t 34), none, none, [(32, .load1 (.t 5), none)]⟩,
    .mk4 4 (some 36) (.slice 1 (.t 32) (some (.t 35)) none none) none,
    .mk4 5 none (.store 1 (.t 5) (.t 36)) none] []
def c60_2 : AC :=
  .seq (.region 0 [.mk4 0 (some 37) (.mv (.t 0)) none,
    .mk4 1 (some 38) (.nilck (.t 37)) none,
    .mk4 2 (some 39) (.faddr 2 (.t 38)) none,
    .mk4 3 (some 40) (.load1 (.t 39)) none,
    .mk4 4 (some 41) (.mv (.t 1)) none,
    .mk4 5 (some 42) (.lenL (.t 41)) none,
    .mk4 6 (some 43) (.bin .add (.t 40) (.t 42)) none,
    .mk4 7 (some 44) (.nilck (.t 37)) none,
    .mk4 8 (some 45) (.faddr 2 (.t 44)) none,
    .mk4 9 none (.store 1 (.t 45) (.t 43)) none] [0, 1]) (c60_0)
def c60_3 : AC :=
  .seq (.seq (.region 0 [.mk4 0 (some 18) (.mv (.t 0)) none,
    .mk4 1 (some 19) (.mv (.t 0)) none,
    .mk4 2 (some 20) (.nilck (.t 19)) none,
    .mk4 3 (some 21) (.faddr 1 (.t 20)) none,
    .mk4 4 (some 22) (.load1 (.t 21)) none,
    .mk4 5 (some 23) (.mv (.t 0)) none,
    .mk4 6 (some 24) (.nilck (.t 23)) none,
    .mk4 7 (some 25) (.faddr 2 (.t 24)) none,
    .mk4 8 (some 26) (.load1 (.t 25)) none,
    .mk4 9 (some 27) (.bin .add (.t 22) (.t 26)) none,
    .mk4 10 (some 28) (.mv (.t 1)) none,
    .mk4 11 (some 29) (.lenL (.t 28)) none,
    .mk4 12 (some 30) (.call 74 [(.t 18), (.t 27), (.t 29)]) none] [0, 1, 5, 30]) (.block 0 (.rangeFunc (.t 30) [31] [5] (.region 0 [.mk4 0 (some 6) (.mv (.t 31)) none] [5, 6]) (.block 1 (c60_1))))) (c60_2)
def c60_4 : AC :=
  .seq (.seq (.region 0 [.mk4 0 (some 14) (.mv (.t 1)) none,
    .mk4 1 (some 15) (.lenL (.t 14)) none,
    .mk4 2 (some 16) (.bin .eql (.t 15) (.c (.i 0))) none] [0, 1, 16]) (.cond (.t 16) (.seq (.region 0 [.mk4 0 (some 4) (.mv (.c (.i 0))) none] [4]) (.ret)) (.skip))) (.seq (.region 0 [.mk4 0 (some 17) (.mv (.t 1)) none,
    .mk4 1 (some 5) (.alloc 1 [.nils]) none,
    .mk4 2 none (.store 1 (.t 5) (.t 17)) none] [0, 1, 5]) (c60_3))
def c60_5 : AC :=
  .seq (.region 0 [.mk4 0 (some 7) (.mv (.t 1)) none,
    .mk4 1 (some 8) (.mv (.t 1)) none,
    .mk4 2 (some 9) (.lenL (.t 8)) none,
    .mk4 3 (some 10) (.mv (.t 0)) none,
    .mk4 4 (some 11) (.call 39 [(.t 10)]) none,
    .mk4 5 (some 12) (.minI [(.t 9), (.t 11)]) none,
    .mk4 6 (some 13) (.slice 1 (.t 7) none (some (.t 12)) none) none,
    .mk4 7 (some 1) (.mv (.t 13)) none] [0, 1]) (c60_4)
def c60 : AFn := ⟨2, 58, [.tmp 4],
  (.seq (.region 0 [.mk4 0 (some 4) (.mv (.c (.i 0))) none] [0, 1]) (c60_5))⟩
def c61_0 : AC :=
  .region 0 [.mk4 0 (some 37) (.mv (.t 0)) none,
    .mk4 1 (some 38) (.nilck (.t 37)) none,
    .mk4 2 (some 39) (.faddr 4 (.t 38)) none,
    .mk4 3 (some 40) (.load1 (.t 39)) none,
    .mk4 4 (some 41) (.mv (.t 5)) none,
    .mk4 5 (some 42) (.lenL (.t 41)) none,
    .mk4 6 (some 43) (.convInt .u64 (.t 42)) none,
    .mk4 7 (some 44) (.bin .add (.t 40) (.t 43)) none,
    .mk4 8 (some 45) (.nilck (.t 37)) none,
    .mk4 9 (some 46) (.faddr 4 (.t 45)) none,
    .mk4 10 none (.store 1 (.t 46) (.t 44)) none] [5]
def c61_1 : AC :=
  .seq (.region 0 [.mk4 0 (some 28) (.mv (.t 0)) none,
    .mk4 1 (some 29) (.nilck (.t 28)) none,
    .mk4 2 (some 30) (.faddr 2 (.t 29)) none,
    .mk4 3 (some 31) (.load1 (.t 30)) none,
    .mk4 4 (some 32) (.mv (.t 5)) none,
    .mk4 5 (some 33) (.lenL (.t 32)) none,
    .mk4 6 (some 34) (.bin .sub (.t 31) (.t 33)) none,
    .mk4 7 (some 35) (.nilck (.t 28)) none,
    .mk4 8 (some 36) (.faddr 2 (.t 35)) none,
    .mk4 9 none (.store 1 (.t 36) (.t 34)) none] [0, 5]) (c61_0)
def c61_2 : AC :=
  .seq (.region 0 [.mk4 0 (some 12) (.mv (.t 0)) none,
    .mk4 1 (some 13) (.mv (.t 0)) none,
    .mk4 2 (some 14) (.nilck (.t 13)) none,
    .mk4 3 (some 15) (.faddr 1 (.t 14)) none,
    .mk4 4 (some 16) (.load1 (.t 15)) none,
    .mk4 5 (some 17) (.mv (.t 5)) none,
    .mk4 6 (some 18) (.lenL (.t 17)) none,
    .mk4 7 (some 19) (.bin .add (.t 16) (.t 18)) none,
    .mk4 8 (some 20) (.mv (.t 0)) none,
    .mk4 9 (some 21) (.nilck (.t 20)) none,
    .mk4 10 (some 22) (.faddr 0 (.t 21)) none,
    .mk4 11 (some 23) (.load1 (.t 22)) none,
    .mk4 12 (some 24) (.lenL (.t 23)) none,
    .mk4 13 (some 25) (.bin .rem (.t 19) (.t 24)) none,
    .mk4 14 (some 26) (.nilck (.t 12)) none,
    .mk4 15 (some 27) (.faddr 1 (.t 26)) none,
    .mk4 16 none (.store 1 (.t 27) (.t 25)) none] [0, 5]) (c61_1)
def c61_3 : AC :=
  .seq (.seq (.region 0 [.mk4 0 (some 9) (.mv (.t 5)) none,
    .mk4 1 (some 10) (.lenL (.t 9)) none,
    .mk4 2 (some 11) (.bin .gtr (.t 10) (.c (.i 0))) none] [0, 5, 11]) (.cond (.t 11) (c61_2) (.skip))) (.seq (.region 0 [.mk4 0 (some 47) (.mv (.t 5)) none,
    .mk4 1 (some 4) (.mv (.t 47)) none] [4]) (.ret))
def c61 : AFn := ⟨2, 48, [.tmp 4],
  (.seq (.region 0 [.mk4 0 (some 4) (.mv (.c (.nils))) none] [0, 1]) (.seq (.region 0 [.mk4 0 (some 6) (.mv (.t 0)) none,
    .mk4 1 (some 7) (.mv (.t 1)) none,
    .mk4 2 (some 8) (.call 70 [(.t 6), (.t 7)]) none,
    .mk4 3 (some 5) (.mv (.t 8)) none] [0, 5]) (c61_3)))⟩
def c62_0 : AC :=
  .seq (.region 0 [.mk4 0 (some 3) (.mv (.t 0)) none,
    .mk4 1 (some 4) (.eq .ptr false (.t 3) (.c (.ptr none))) none,
    .mk4 2 (some 5) (.mv (.t 4)) none,
    .mk4 3 (some 6) (.mv (.t 0)) (some (5, false)),
    .mk4 4 (some 7) (.nilck (.t 6)) (some (5, false)),
    .mk4 5 (some 8) (.faddr 5 (.t 7)) (some (5, false)),
    .mk4 6 (some 9) (.load1 (.t 8)) (some (5, false)),
    .mk4 7 (some 10) (.un .not (.t 9)) (some (5, false)),
    .mk4 8 (some 11) (.pick (.t 5) (.c (.bool true)) (.t 10)) none,
    .mk4 9 (some 2) (.mv (.t 11)) none] [2]) (.ret)
def c62 : AFn := ⟨1, 12, [.tmp 2],
  (.seq (.region 0 [.mk4 0 (some 2) (.mv (.c (.bool false))) none] [0]) (c62_0))⟩
def c63_0 : AC :=
  .seq (.region 0 [.mk4 0 (some 13) (.faddr 0 (.t 4)) none,
    .mk4 1 (some 14) (.load1 (.t 13)) none,
    .mk4 2 (some 15) (.un .not (.t 14)) none,
    .mk4 3 (some 16) (.mv (.t 15)) none,
    .mk4 4 (some 17) (.mv (.t 0)) (some (16, true)),
    .mk4 5 (some 18) (.mv (.t 3)) (some (16, true)),
    .mk4 6 (some 19) (.callv (.t 17) [(.t 18)]) (some (16, true)),
    .mk4 7 (some 20) (.un .not (.t 19)) (some (16, true)),
    .mk4 8 (some 21) (.pick (.t 16) (.t 20) (.c (.bool false))) none] [0, 8, 9, 21]) (.cond (.t 21) (.ret) (.skip))
def c63_1 : AC :=
  .seq (.block 1 (.seq (.region 0 [.mk4 0 (some 11) (.mv (.t 9)) none,
    .mk4 1 (some 12) (.ixA 96 3 (some 3) (.t 8) (.t 9)) none,
    .mk4 2 (some 4) (.alloc 3 [.bool false, .i 0, .i 0]) none,
    .mk4 3 (some 3) (.mv (.t 11)) none,
    .mk4 4 none (.store 3 (.t 4) (.t 12)) none] [0, 3, 4, 8, 9]) (c63_0))) (.region 0 [.mk4 0 (some 22) (.bin .add (.t 9) (.c (.i 1))) none,
    .mk4 1 (some 9) (.mv (.t 22)) none] [0, 8, 9])
def c63_2 : AC :=
  .seq (.region 0 [.mk4 0 (some 5) (.load1 (.t 1)) none,
    .mk4 1 (some 6) (.nilck (.t 5)) none,
    .mk4 2 (some 7) (.faddr 0 (.t 6)) none,
    .mk4 3 (some 8) (.loadN 288 (.t 7)) none,
    .mk4 4 (some 9) (.mv (.c (.i 0))) none] [0, 8, 9]) (.block 0 (.loop [0, 8, 9] (.seq (.region 0 [.mk4 0 (some 10) (.bin .lss (.t 9) (.c (.i 96))) none] [0, 8, 9, 10]) (.seq (.cond (.t 10) (.skip) (.exit 0)) (c63_1)))))
def c63 : AFn := ⟨2, 23, [],
  (c63_2)⟩
def c64_0 : AC :=
  .rangeFunc (.t 6) [7] [3] (.region 0 [.mk4 0 (some 4) (.alloc 2 [.i 0, .i 0]) none,
    .mk4 1 none (.store 2 (.t 4) (.t 7)) none] [3, 4]) (.block 1 (.region 0 [.mk4 0 (some 8) (.load1 (.t 3)) none,
    .mk4 1 (some 9) (.faddr 1 (.t 4)) none,
    .mk4 2 (some 10) (.load1 (.t 9)) none,
    .mk4 3 (some 11) (.bin .add (.t 8) (.t 10)) none,
    .mk4 4 none (.store 1 (.t 3) (.t 11)) none] []))
def c64_1 : AC :=
  .seq (.region 0 [.mk4 0 (some 3) (.alloc 1 [.i 0]) none,
    .mk4 1 none (.store 1 (.t 3) (.c (.i 0))) none] [0, 3]) (.seq (.seq (.region 0 [.mk4 0 (some 5) (.mv (.t 0)) none,
    .mk4 1 (some 6) (.call 66 [(.t 5)]) none] [3, 6]) (.block 0 (c64_0))) (.seq (.region 0 [.mk4 0 (some 12) (.load1 (.t 3)) none,
    .mk4 1 (some 2) (.mv (.t 12)) none] [2]) (.ret)))
def c64 : AFn := ⟨1, 13, [.tmp 2],
  (.seq (.region 0 [.mk4 0 (some 2) (.mv (.c (.i 0))) none] [0]) (c64_1))⟩
def c65_0 : AC :=
  .cond (.t 5) (.seq (.region 0 [.mk4 0 (some 4) (.mv (.c (.i 1))) none] [4]) (.ret)) (.seq (.region 0 [.mk4 0 (some 9) (.mv (.t 1)) none,
    .mk4 1 (some 10) (.call 75 [(.t 9)]) none,
    .mk4 2 (some 11) (.un .not (.t 10)) none,
    .mk4 3 (some 8) (.mv (.t 11)) none] [8]) (.cond (.t 8) (.seq (.region 0 [.mk4 0 (some 4) (.mv (.c (.i 100))) none] [4]) (.ret)) (.skip)))
def c65_1 : AC :=
  .seq (.region 0 [.mk4 0 (some 4) (.mv (.c (.i 0))) none] [0, 1]) (.seq (.block 0 (.seq (.region 0 [.mk4 0 (some 6) (.mv (.t 0)) none,
    .mk4 1 (some 7) (.eq .ptr false (.t 6) (.c (.ptr none))) none,
    .mk4 2 (some 5) (.mv (.t 7)) none] [1, 5]) (c65_0))) (.seq (.region 0 [.mk4 0 (some 4) (.mv (.c (.i 0))) none] [4]) (.ret)))
def c65 : AFn := ⟨2, 12, [.tmp 4],
  (c65_1)⟩
def c66 : AFn := ⟨1, 4, [.tmp 2],
  (.seq (.region 0 [.mk4 0 (some 1) (.box 1 (.t 0)) none,
    .mk4 1 (some 2) (.mv (.c (.nilfn))) none] [1]) (.seq (.region 0 [.mk4 0 (some 3) (.mkClo 76 [(.t 1)]) none,
    .mk4 1 (some 2) (.mv (.t 3)) none] [2]) (.ret)))⟩
def c67_0 : AC :=
  .seq (.region 0 [.mk4 0 (some 18) (.mv (.t 6)) none,
    .mk4 1 (some 19) (.sliceA 24 1 (.t 5) none (some (.t 18)) none) none,
    .mk4 2 (some 20) (.mv (.t 0)) none,
    .mk4 3 (some 21) (.call 79 [(.t 19), (.t 20)]) none] [5, 6]) (.seq (.region 0 [.mk4 0 (some 22) (.mv (.t 6)) none,
    .mk4 1 (some 23) (.sliceA 24 1 (.t 5) none (some (.t 22)) none) none,
    .mk4 2 (some 24) (.ofBytes (.t 23)) none,
    .mk4 3 (some 4) (.mv (.t 24)) none] [4]) (.ret))
def c67_1 : AC :=
  .seq (.seq (.region 0 [.mk4 0 (some 11) (.mv (.t 0)) none,
    .mk4 1 (some 12) (.bin .lss (.t 11) (.c (.int .u64 100))) none] [0, 12]) (.cond (.t 12) (.seq (.region 0 [.mk4 0 (some 13) (.mv (.t 0)) none,
    .mk4 1 (some 14) (.convInt .i64 (.t 13)) none,
    .mk4 2 (some 15) (.call 77 [(.t 14)]) none,
    .mk4 3 (some 4) (.mv (.t 15)) none] [4]) (.ret)) (.skip))) (.seq (.region 0 [.mk4 0 (some 5) (.alloc 24 (List.replicate 24 (.int .u8 0 : V))) none] [0, 5]) (.seq (.region 0 [.mk4 0 (some 16) (.mv (.t 0)) none,
    .mk4 1 (some 17) (.call 78 [(.t 16)]) none,
    .mk4 2 (some 6) (.mv (.t 17)) none] [0, 5, 6]) (c67_0)))
def c67_2 : AC :=
  .seq (.region 0 [.mk4 0 (some 26) (.mv (.t 0)) none,
    .mk4 1 (some 27) (.mv (.t 1)) none,
    .mk4 2 (some 28) (.call 80 [(.c (.nils)), (.t 26), (.t 27), (.c (.bool false)), (.c (.bool false))]) none,
    .mk4 3 (some 25) (.mv (.t 28)) none,
    .mk4 4 (some 29) (.extract (.t 25) 0) none,
    .mk4 5 (some 30) (.extract (.t 25) 1) none,
    .mk4 6 (some 7) (.mv (.t 29)) none,
    .mk4 7 (some 8) (.mv (.t 30)) none] [8]) (.seq (.region 0 [.mk4 0 (some 31) (.mv (.t 8)) none,
    .mk4 1 (some 4) (.mv (.t 31)) none] [4]) (.ret))
def c67 : AFn := ⟨2, 32, [.tmp 4],
  (.seq (.region 0 [.mk4 0 (some 4) (.mv (.c (.str []))) none] [0, 1]) (.seq (.seq (.region 0 [.mk4 0 (some 9) (.mv (.t 1)) none,
    .mk4 1 (some 10) (.bin .eql (.t 9) (.c (.i 10))) none] [0, 1, 10]) (.cond (.t 10) (c67_1) (.skip))) (c67_2)))⟩
def c68 : AFn := ⟨1, 5, [.tmp 2],
  (.seq (.region 0 [.mk4 0 (some 2) (.mv (.c (.str []))) none] [0]) (.seq (.region 0 [.mk4 0 (some 3) (.mv (.t 0)) none,
    .mk4 1 (some 4) (.call 81 [(.t 3), (.c (.i 10))]) none,
    .mk4 2 (some 2) (.mv (.t 4)) none] [2]) (.ret)))⟩
def c69_0 : AC :=
  .region 1 [.mk4 0 (some 12) (.mv (.t 3)) none,
    .mk4 1 (some 13) (.mv (.t 5)) none,
    .mk4 2 (some 14) (.bin .shr (.t 13) (.c (.int .u64 4))) none,
    .mk4 3 (some 15) (.ixStr (.c (.str [48, 49, 50, 51, 52, 53, 54, 55, 56, 57, 97, 98, 99, 100, 101, 102])) (.t 14)) none,
    .mk4 4 (some 16) (.mv (.t 5)) none,
    .mk4 5 (some 17) (.bin .and (.t 16) (.c (.int .u8 15))) none,
    .mk4 6 (some 18) (.ixStr (.c (.str [48, 49, 50, 51, 52, 53, 54, 55, 56, 57, 97, 98, 99, 100, 101, 102])) (.t 17)) none,
    ⟨7, (some 19), .bslice 1 2 [.int .u8 0, .int .u8 0] [(0, (.t 15)), (1, (.t 18))], none, some 0, []⟩,
    .mk4 8 (some 20) (.append 1 1 (.t 12) (.t 19)) none,
    .mk4 9 (some 3) (.mv (.t 20)) none] [3, 6, 7, 8]
def c69_1 : AC :=
  .seq (.block 1 (.seq (.region 0 [.mk4 0 (some 10) (.ixaS 1 (.t 6) (.t 8)) none,
    .mk4 1 (some 11) (.load1 (.t 10)) none,
    .mk4 2 (some 5) (.mv (.t 11)) none] [3, 5, 6, 7, 8]) (c69_0))) (.region 0 [.mk4 0 (some 21) (.bin .add (.t 8) (.c (.i 1))) none,
    .mk4 1 (some 8) (.mv (.t 21)) none] [3, 6, 7, 8])
def c69_2 : AC :=
  .seq (.seq (.region 0 [.mk4 0 (some 6) (.mv (.t 0)) none,
    .mk4 1 (some 7) (.lenL (.t 6)) none,
    .mk4 2 (some 8) (.mv (.c (.i 0))) none] [3, 6, 7, 8]) (.block 0 (.loop [3, 6, 7, 8] (.seq (.region 0 [.mk4 0 (some 9) (.bin .lss (.t 8) (.t 7)) none] [3, 6, 7, 8, 9]) (.seq (.cond (.t 9) (.skip) (.exit 0)) (c69_1)))))) (.seq (.region 0 [.mk4 0 (some 22) (.mv (.t 3)) none,
    .mk4 1 (some 23) (.ofBytes (.t 22)) none,
    .mk4 2 (some 2) (.mv (.t 23)) none] [2]) (.ret))
def c69 : AFn := ⟨1, 24, [.tmp 2],
  (.seq (.region 0 [.mk4 0 (some 2) (.mv (.c (.str []))) none] [0]) (.seq (.region 0 [.mk4 0 (some 3) (.mv (.c (.nils))) none] [0, 3]) (c69_2)))⟩
def c70_0 : AC :=
  .block 0 (.rangeFunc (.t 19) [20] [5] (.region 0 [.mk4 0 (some 6) (.mv (.t 20)) none] [5, 6]) (.block 1 (.region 0 [.mk4 0 (some 21) (.load1 (.t 5)) none,
    .mk4 1 (some 22) (.mv (.t 6)) none,
    .mk4 2 (some 23) (.append 1 1 (.t 21) (.t 22)) none,
    .mk4 3 none (.store 1 (.t 5) (.t 23)) none] [])))
def c70_1 : AC :=
  .seq (.region 0 [.mk4 0 (some 13) (.mv (.t 0)) none,
    .mk4 1 (some 14) (.mv (.t 0)) none,
    .mk4 2 (some 15) (.nilck (.t 14)) none,
    .mk4 3 (some 16) (.faddr 1 (.t 15)) none,
    .mk4 4 (some 17) (.load1 (.t 16)) none,
    .mk4 5 (some 18) (.mv (.t 1)) none,
    .mk4 6 (some 19) (.call 74 [(.t 13), (.t 17), (.t 18)]) none] [5, 19]) (c70_0)
def c70_2 : AC :=
  .seq (.seq (.region 0 [.mk4 0 (some 7) (.mv (.t 1)) none,
    .mk4 1 (some 8) (.mv (.t 0)) none,
    .mk4 2 (some 9) (.call 38 [(.t 8)]) none,
    .mk4 3 (some 10) (.minI [(.t 7), (.t 9)]) none,
    .mk4 4 (some 1) (.mv (.t 10)) none] [0, 1, 5]) (.seq (.region 0 [.mk4 0 (some 11) (.mv (.t 1)) none,
    .mk4 1 (some 12) (.bin .gtr (.t 11) (.c (.i 0))) none] [0, 1, 5, 12]) (.cond (.t 12) (c70_1) (.skip)))) (.seq (.region 0 [.mk4 0 (some 24) (.load1 (.t 5)) none,
    .mk4 1 (some 4) (.mv (.t 24)) none] [4]) (.ret))
def c70 : AFn := ⟨2, 25, [.tmp 4],
  (.seq (.region 0 [.mk4 0 (some 4) (.mv (.c (.nils))) none] [0, 1]) (.seq (.region 0 [.mk4 0 (some 5) (.alloc 1 [.nils]) none] [0, 1, 5]) (c70_2)))⟩
def c72_0 : AC :=
  .seq (.region 0 [.mk4 0 (some 8) (.mv (.t 0)) none,
    .mk4 1 (some 9) (.mv (.t 0)) none,
    .mk4 2 (some 10) (.nilck (.t 9)) none,
    .mk4 3 (some 11) (.faddr 1 (.t 10)) none,
    .mk4 4 (some 12) (.load1 (.t 11)) none,
    .mk4 5 (some 13) (.mv (.t 1)) none,
    .mk4 6 (some 14) (.append 1 1 (.t 12) (.t 13)) none,
    .mk4 7 (some 15) (.nilck (.t 8)) none,
    .mk4 8 (some 16) (.faddr 1 (.t 15)) none,
    .mk4 9 none (.store 1 (.t 16) (.t 14)) none] [1]) (.seq (.region 0 [.mk4 0 (some 17) (.mv (.t 1)) none,
    .mk4 1 (some 18) (.lenS (.t 17)) none,
    .mk4 2 (some 4) (.mv (.t 18)) none,
    .mk4 3 (some 5) (.mv (.c (.nili))) none] [4, 5]) (.ret))
def c72 : AFn := ⟨2, 19, [.tmp 4, .tmp 5],
  (.seq (.region 0 [.mk4 0 (some 4) (.mv (.c (.i 0))) none,
    .mk4 1 (some 5) (.mv (.c (.nili))) none] [0, 1]) (.seq (.region 0 [.mk4 0 (some 6) (.mv (.t 0)) none,
    .mk4 1 (some 7) (.call 82 [(.t 6)]) none] [0, 1]) (c72_0)))⟩
def c74_0 : AC :=
  .seq (.region 0 [.mk4 0 (some 3) (.box 1 (.t 0)) none,
    .mk4 1 (some 4) (.box 1 (.t 1)) none,
    .mk4 2 (some 5) (.box 1 (.t 2)) none,
    .mk4 3 (some 6) (.mv (.c (.nilfn))) none] [3, 4, 5]) (.seq (.region 0 [.mk4 0 (some 7) (.mkClo 84 [(.t 5), (.t 4), (.t 3)]) none,
    .mk4 1 (some 6) (.mv (.t 7)) none] [6]) (.ret))
def c74 : AFn := ⟨3, 8, [.tmp 6],
  (c74_0)⟩
def c75_0 : AC :=
  .seq (.region 0 [.mk4 0 (some 3) (.mv (.t 0)) none,
    .mk4 1 (some 4) (.bin .geq (.t 3) (.c (.i 1))) none,
    .mk4 2 (some 5) (.mv (.t 4)) none,
    .mk4 3 (some 6) (.mv (.t 0)) (some (5, true)),
    .mk4 4 (some 7) (.bin .leq (.t 6) (.c (.i 31))) (some (5, true)),
    .mk4 5 (some 8) (.pick (.t 5) (.t 7) (.c (.bool false))) none,
    .mk4 6 (some 2) (.mv (.t 8)) none] [2]) (.ret)
def c75 : AFn := ⟨1, 9, [.tmp 2],
  (.seq (.region 0 [.mk4 0 (some 2) (.mv (.c (.bool false))) none] [0]) (c75_0))⟩
def c76_0 : AC :=
  .seq (.region 0 [.mk4 0 (some 13) (.mv (.t 0)) none,
    .mk4 1 (some 14) (.mv (.t 3)) none,
    .mk4 2 (some 15) (.mv (.t 4)) none,
    .mk4 3 (some 16) (.build [.i 0, .i 0] [(0, 1, (.t 14)), (1, 1, (.t 15))]) none,
    .mk4 4 (some 17) (.callv (.t 13) [(.t 16)]) none,
    .mk4 5 (some 18) (.un .not (.t 17)) none] [0, 1, 5, 18]) (.cond (.t 18) (.ret) (.skip))
def c76_1 : AC :=
  .seq (.region 0 [.mk4 0 (some 8) (.load1 (.t 1)) none,
    .mk4 1 (some 9) (.mv (.t 3)) none,
    .mk4 2 (some 10) (.call 56 [(.t 8), (.t 9)]) none,
    .mk4 3 (some 4) (.mv (.t 10)) none] [0, 1, 3, 4, 5]) (.seq (.seq (.region 0 [.mk4 0 (some 11) (.mv (.t 4)) none,
    .mk4 1 (some 12) (.bin .eql (.t 11) (.c (.i 0))) none] [0, 1, 3, 4, 5, 12]) (.cond (.t 12) (.exit 1) (.skip))) (c76_0))
def c76_2 : AC :=
  .seq (.region 0 [.mk4 0 (some 6) (.bin .lss (.t 5) (.c (.i 32))) none] [0, 1, 5, 6]) (.seq (.cond (.t 6) (.skip) (.exit 0)) (.seq (.block 1 (.seq (.region 0 [.mk4 0 (some 7) (.mv (.t 5)) none,
    .mk4 1 (some 3) (.mv (.t 7)) none] [0, 1, 3, 5]) (c76_1))) (.region 0 [.mk4 0 (some 19) (.bin .add (.t 5) (.c (.i 1))) none,
    .mk4 1 (some 5) (.mv (.t 19)) none] [0, 1, 5])))
def c76 : AFn := ⟨2, 20, [],
  (.scope (.seq (.label 0) (.seq (.region 0 [.mk4 0 (some 5) (.mv (.c (.i 0))) none] [0, 1, 5]) (.block 0 (.loop [0, 1, 5] (c76_2))))))⟩
def c77_0 : AC :=
  .seq (.region 0 [.mk4 0 (some 5) (.mv (.t 0)) none,
    .mk4 1 (some 6) (.mv (.t 0)) none,
    .mk4 2 (some 7) (.bin .add (.t 6) (.c (.i 1))) none,
    .mk4 3 (some 8) (.sliceS (.c (.str [48, 49, 50, 51, 52, 53, 54, 55, 56, 57, 97, 98, 99, 100, 101, 102, 103, 104, 105, 106, 107, 108, 109, 110, 111, 112, 113, 114, 115, 116, 117, 118, 119, 120, 121, 122])) (some (.t 5)) (some (.t 7))) none,
    .mk4 4 (some 2) (.mv (.t 8)) none] [2]) (.ret)
def c77_1 : AC :=
  .seq (.region 0 [.mk4 0 (some 9) (.mv (.t 0)) none,
    .mk4 1 (some 10) (.bin .mul (.t 9) (.c (.i 2))) none,
    .mk4 2 (some 11) (.mv (.t 0)) none,
    .mk4 3 (some 12) (.bin .mul (.t 11) (.c (.i 2))) none,
    .mk4 4 (some 13) (.bin .add (.t 12) (.c (.i 2))) none,
    .mk4 5 (some 14) (.sliceS (.c (.str [48, 48, 48, 49, 48, 50, 48, 51, 48, 52, 48, 53, 48, 54, 48, 55, 48, 56, 48, 57, 49, 48, 49, 49, 49, 50, 49, 51, 49, 52, 49, 53, 49, 54, 49, 55, 49, 56, 49, 57, 50, 48, 50, 49, 50, 50, 50, 51, 50, 52, 50, 53, 50, 54, 50, 55, 50, 56, 50, 57, 51, 48, 51, 49, 51, 50, 51, 51, 51, 52, 51, 53, 51, 54, 51, 55, 51, 56, 51, 57, 52, 48, 52, 49, 52, 50, 52, 51, 52, 52, 52, 53, 52, 54, 52, 55, 52, 56, 52, 57, 53, 48, 53, 49, 53, 50, 53, 51, 53, 52, 53, 53, 53, 54, 53, 55, 53, 56, 53, 57, 54, 48, 54, 49, 54, 50, 54, 51, 54, 52, 54, 53, 54, 54, 54, 55, 54, 56, 54, 57, 55, 48, 55, 49, 55, 50, 55, 51, 55, 52, 55, 53, 55, 54, 55, 55, 55, 56, 55, 57, 56, 48, 56, 49, 56, 50, 56, 51, 56, 52, 56, 53, 56, 54, 56, 55, 56, 56, 56, 57, 57, 48, 57, 49, 57, 50, 57, 51, 57, 52, 57, 53, 57, 54, 57, 55, 57, 56, 57, 57])) (some (.t 10)) (some (.t 13))) none,
    .mk4 6 (some 2) (.mv (.t 14)) none] [2]) (.ret)
def c77 : AFn := ⟨1, 15, [.tmp 2],
  (.seq (.region 0 [.mk4 0 (some 2) (.mv (.c (.str []))) none] [0]) (.seq (.seq (.region 0 [.mk4 0 (some 3) (.mv (.t 0)) none,
    .mk4 1 (some 4) (.bin .lss (.t 3) (.c (.i 10))) none] [0, 4]) (.cond (.t 4) (c77_0) (.skip))) (c77_1)))⟩
def c78_0 : AC :=
  .seq (.region 0 [.mk4 0 (some 7) (.mv (.t 3)) none,
    .mk4 1 (some 8) (.mv (.t 0)) none,
    .mk4 2 (some 9) (.mv (.t 3)) none,
    .mk4 3 (some 10) (.ixaA 20 1 (.c (.p 0 0)) (.t 9)) none,
    .mk4 4 (some 11) (.load1 (.t 10)) none,
    .mk4 5 (some 12) (.bin .geq (.t 8) (.t 11)) none,
    .mk4 6 (some 13) (.call 87 [(.t 12)]) none,
    .mk4 7 (some 14) (.bin .add (.t 7) (.t 13)) none,
    .mk4 8 (some 2) (.mv (.t 14)) none] [2]) (.ret)
def c78 : AFn := ⟨1, 15, [.tmp 2],
  (.seq (.region 0 [.mk4 0 (some 2) (.mv (.c (.i 0))) none] [0]) (.seq (.region 0 [.mk4 0 (some 4) (.mv (.t 0)) none,
    .mk4 1 (some 5) (.call 86 [(.t 4)]) none,
    .mk4 2 (some 6) (.call 85 [(.t 5)]) none,
    .mk4 3 (some 3) (.mv (.t 6)) none] [0, 3]) (c78_0)))⟩
def c79_0 : AC :=
  .region 0 [.mk4 0 (some 162) (.mv (.t 0)) none,
    .mk4 1 (some 163) (.mv (.t 12)) none,
    .mk4 2 (some 164) (.bin .add (.c (.int .u32 48)) (.t 163)) none,
    .mk4 3 (some 165) (.convInt .u8 (.t 164)) none,
    .mk4 4 (some 166) (.ixaS 1 (.t 162) (.c (.i 0))) none,
    .mk4 5 none (.store 1 (.t 166) (.t 165)) none] []
def c79_1 : AC :=
  .seq (.region 0 [.mk4 0 (some 145) (.mv (.t 0)) none,
    .mk4 1 (some 146) (.mv (.t 4)) none,
    .mk4 2 (some 147) (.bin .sub (.t 146) (.c (.i 1))) none,
    .mk4 3 (some 148) (.mv (.t 0)) none,
    .mk4 4 (some 149) (.mv (.t 4)) none,
    .mk4 5 (some 150) (.bin .sub (.t 149) (.c (.i 2))) none,
    .mk4 6 (some 151) (.mv (.t 16)) none,
    .mk4 7 (some 152) (.bin .add (.t 151) (.c (.int .u32 1))) none,
    .mk4 8 (some 153) (.ixStr (.c (.str [48, 48, 48, 49, 48, 50, 48, 51, 48, 52, 48, 53, 48, 54, 48, 55, 48, 56, 48, 57, 49, 48, 49, 49, 49, 50, 49, 51, 49, 52, 49, 53, 49, 54, 49, 55, 49, 56, 49, 57, 50, 48, 50, 49, 50, 50, 50, 51, 50, 52, 50, 53, 50, 54, 50, 55, 50, 56, 50, 57, 51, 48, 51, 49, 51, 50, 51, 51, 51, 52, 51, 53, 51, 54, 51, 55, 51, 56, 51, 57, 52, 48, 52, 49, 52, 50, 52, 51, 52, 52, 52, 53, 52, 54, 52, 55, 52, 56, 52, 57, 53, 48, 53, 49, 53, 50, 53, 51, 53, 52, 53, 53, 53, 54, 53, 55, 53, 56, 53, 57, 54, 48, 54, 49, 54, 50, 54, 51, 54, 52, 54, 53, 54, 54, 54, 55, 54, 56, 54, 57, 55, 48, 55, 49, 55, 50, 55, 51, 55, 52, 55, 53, 55, 54, 55, 55, 55, 56, 55, 57, 56, 48, 56, 49, 56, 50, 56, 51, 56, 52, 56, 53, 56, 54, 56, 55, 56, 56, 56, 57, 57, 48, 57, 49, 57, 50, 57, 51, 57, 52, 57, 53, 57, 54, 57, 55, 57, 56, 57, 57])) (.t 152)) none,
    .mk4 9 (some 154) (.mv (.t 16)) none,
    .mk4 10 (some 155) (.ixStr (.c (.str [48, 48, 48, 49, 48, 50, 48, 51, 48, 52, 48, 53, 48, 54, 48, 55, 48, 56, 48, 57, 49, 48, 49, 49, 49, 50, 49, 51, 49, 52, 49, 53, 49, 54, 49, 55, 49, 56, 49, 57, 50, 48, 50, 49, 50, 50, 50, 51, 50, 52, 50, 53, 50, 54, 50, 55, 50, 56, 50, 57, 51, 48, 51, 49, 51, 50, 51, 51, 51, 52, 51, 53, 51, 54, 51, 55, 51, 56, 51, 57, 52, 48, 52, 49, 52, 50, 52, 51, 52, 52, 52, 53, 52, 54, 52, 55, 52, 56, 52, 57, 53, 48, 53, 49, 53, 50, 53, 51, 53, 52, 53, 53, 53, 54, 53, 55, 53, 56, 53, 57, 54, 48, 54, 49, 54, 50, 54, 51, 54, 52, 54, 53, 54, 54, 54, 55, 54, 56, 54, 57, 55, 48, 55, 49, 55, 50, 55, 51, 55, 52, 55, 53, 55, 54, 55, 55, 55, 56, 55, 57, 56, 48, 56, 49, 56, 50, 56, 51, 56, 52, 56, 53, 56, 54, 56, 55, 56, 56, 56, 57, 57, 48, 57, 49, 57, 50, 57, 51, 57, 52, 57, 53, 57, 54, 57, 55, 57, 56, 57, 57])) (.t 154)) none,
    .mk4 11 (some 156) (.ixaS 1 (.t 145) (.t 147)) none,
    .mk4 12 none (.store 1 (.t 156) (.t 153)) none,
    .mk4 13 (some 157) (.ixaS 1 (.t 148) (.t 150)) none,
    .mk4 14 none (.store 1 (.t 157) (.t 155)) none] [0, 4, 12]) (.region 0 [.mk4 0 (some 158) (.mv (.t 4)) none,
    .mk4 1 (some 159) (.bin .sub (.t 158) (.c (.i 2))) none,
    .mk4 2 (some 4) (.mv (.t 159)) none] [0, 4, 12])
def c79_2 : AC :=
  .seq (.region 0 [.mk4 0 (some 140) (.mv (.t 12)) none,
    .mk4 1 (some 141) (.bin .rem (.t 140) (.c (.int .u32 100))) none,
    .mk4 2 (some 142) (.bin .mul (.t 141) (.c (.int .u32 2))) none,
    .mk4 3 (some 16) (.mv (.t 142)) none] [0, 4, 12, 16]) (.seq (.region 0 [.mk4 0 (some 143) (.mv (.t 12)) none,
    .mk4 1 (some 144) (.bin .quo (.t 143) (.c (.int .u32 100))) none,
    .mk4 2 (some 12) (.mv (.t 144)) none] [0, 4, 12, 16]) (c79_1))
def c79_3 : AC :=
  .seq (.region 0 [.mk4 0 (some 123) (.mv (.t 0)) none,
    .mk4 1 (some 124) (.mv (.t 4)) none,
    .mk4 2 (some 125) (.bin .sub (.t 124) (.c (.i 3))) none,
    .mk4 3 (some 126) (.mv (.t 0)) none,
    .mk4 4 (some 127) (.mv (.t 4)) none,
    .mk4 5 (some 128) (.bin .sub (.t 127) (.c (.i 4))) none,
    .mk4 6 (some 129) (.mv (.t 14)) none,
    .mk4 7 (some 130) (.bin .add (.t 129) (.c (.int .u32 1))) none,
    .mk4 8 (some 131) (.ixStr (.c (.str [48, 48, 48, 49, 48, 50, 48, 51, 48, 52, 48, 53, 48, 54, 48, 55, 48, 56, 48, 57, 49, 48, 49, 49, 49, 50, 49, 51, 49, 52, 49, 53, 49, 54, 49, 55, 49, 56, 49, 57, 50, 48, 50, 49, 50, 50, 50, 51, 50, 52, 50, 53, 50, 54, 50, 55, 50, 56, 50, 57, 51, 48, 51, 49, 51, 50, 51, 51, 51, 52, 51, 53, 51, 54, 51, 55, 51, 56, 51, 57, 52, 48, 52, 49, 52, 50, 52, 51, 52, 52, 52, 53, 52, 54, 52, 55, 52, 56, 52, 57, 53, 48, 53, 49, 53, 50, 53, 51, 53, 52, 53, 53, 53, 54, 53, 55, 53, 56, 53, 57, 54, 48, 54, 49, 54, 50, 54, 51, 54, 52, 54, 53, 54, 54, 54, 55, 54, 56, 54, 57, 55, 48, 55, 49, 55, 50, 55, 51, 55, 52, 55, 53, 55, 54, 55, 55, 55, 56, 55, 57, 56, 48, 56, 49, 56, 50, 56, 51, 56, 52, 56, 53, 56, 54, 56, 55, 56, 56, 56, 57, 57, 48, 57, 49, 57, 50, 57, 51, 57, 52, 57, 53, 57, 54, 57, 55, 57, 56, 57, 57])) (.t 130)) none,
    .mk4 9 (some 132) (.mv (.t 14)) none,
    .mk4 10 (some 133) (.ixStr (.c (.str [48, 48, 48, 49, 48, 50, 48, 51, 48, 52, 48, 53, 48, 54, 48, 55, 48, 56, 48, 57, 49, 48, 49, 49, 49, 50, 49, 51, 49, 52, 49, 53, 49, 54, 49, 55, 49, 56, 49, 57, 50, 48, 50, 49, 50, 50, 50, 51, 50, 52, 50, 53, 50, 54, 50, 55, 50, 56, 50, 57, 51, 48, 51, 49, 51, 50, 51, 51, 51, 52, 51, 53, 51, 54, 51, 55, 51, 56, 51, 57, 52, 48, 52, 49, 52, 50, 52, 51, 52, 52, 52, 53, 52, 54, 52, 55, 52, 56, 52, 57, 53, 48, 53, 49, 53, 50, 53, 51, 53, 52, 53, 53, 53, 54, 53, 55, 53, 56, 53, 57, 54, 48, 54, 49, 54, 50, 54, 51, 54, 52, 54, 53, 54, 54, 54, 55, 54, 56, 54, 57, 55, 48, 55, 49, 55, 50, 55, 51, 55, 52, 55, 53, 55, 54, 55, 55, 55, 56, 55, 57, 56, 48, 56, 49, 56, 50, 56, 51, 56, 52, 56, 53, 56, 54, 56, 55, 56, 56, 56, 57, 57, 48, 57, 49, 57, 50, 57, 51, 57, 52, 57, 53, 57, 54, 57, 55, 57, 56, 57, 57])) (.t 132)) none,
    .mk4 11 (some 134) (.ixaS 1 (.t 123) (.t 125)) none,
    .mk4 12 none (.store 1 (.t 134) (.t 131)) none,
    .mk4 13 (some 135) (.ixaS 1 (.t 126) (.t 128)) none,
    .mk4 14 none (.store 1 (.t 135) (.t 133)) none] [0, 4, 12]) (.region 0 [.mk4 0 (some 136) (.mv (.t 4)) none,
    .mk4 1 (some 137) (.bin .sub (.t 136) (.c (.i 4))) none,
    .mk4 2 (some 4) (.mv (.t 137)) none] [0, 4, 12])
def c79_4 : AC :=
  .seq (.region 0 [.mk4 0 (some 110) (.mv (.t 0)) none,
    .mk4 1 (some 111) (.mv (.t 4)) none,
    .mk4 2 (some 112) (.bin .sub (.t 111) (.c (.i 1))) none,
    .mk4 3 (some 113) (.mv (.t 0)) none,
    .mk4 4 (some 114) (.mv (.t 4)) none,
    .mk4 5 (some 115) (.bin .sub (.t 114) (.c (.i 2))) none,
    .mk4 6 (some 116) (.mv (.t 15)) none,
    .mk4 7 (some 117) (.bin .add (.t 116) (.c (.int .u32 1))) none,
    .mk4 8 (some 118) (.ixStr (.c (.str [48, 48, 48, 49, 48, 50, 48, 51, 48, 52, 48, 53, 48, 54, 48, 55, 48, 56, 48, 57, 49, 48, 49, 49, 49, 50, 49, 51, 49, 52, 49, 53, 49, 54, 49, 55, 49, 56, 49, 57, 50, 48, 50, 49, 50, 50, 50, 51, 50, 52, 50, 53, 50, 54, 50, 55, 50, 56, 50, 57, 51, 48, 51, 49, 51, 50, 51, 51, 51, 52, 51, 53, 51, 54, 51, 55, 51, 56, 51, 57, 52, 48, 52, 49, 52, 50, 52, 51, 52, 52, 52, 53, 52, 54, 52, 55, 52, 56, 52, 57, 53, 48, 53, 49, 53, 50, 53, 51, 53, 52, 53, 53, 53, 54, 53, 55, 53, 56, 53, 57, 54, 48, 54, 49, 54, 50, 54, 51, 54, 52, 54, 53, 54, 54, 54, 55, 54, 56, 54, 57, 55, 48, 55, 49, 55, 50, 55, 51, 55, 52, 55, 53, 55, 54, 55, 55, 55, 56, 55, 57, 56, 48, 56, 49, 56, 50, 56, 51, 56, 52, 56, 53, 56, 54, 56, 55, 56, 56, 56, 57, 57, 48, 57, 49, 57, 50, 57, 51, 57, 52, 57, 53, 57, 54, 57, 55, 57, 56, 57, 57])) (.t 117)) none,
    .mk4 9 (some 119) (.mv (.t 15)) none,
    .mk4 10 (some 120) (.ixStr (.c (.str [48, 48, 48, 49, 48, 50, 48, 51, 48, 52, 48, 53, 48, 54, 48, 55, 48, 56, 48, 57, 49, 48, 49, 49, 49, 50, 49, 51, 49, 52, 49, 53, 49, 54, 49, 55, 49, 56, 49, 57, 50, 48, 50, 49, 50, 50, 50, 51, 50, 52, 50, 53, 50, 54, 50, 55, 50, 56, 50, 57, 51, 48, 51, 49, 51, 50, 51, 51, 51, 52, 51, 53, 51, 54, 51, 55, 51, 56, 51, 57, 52, 48, 52, 49, 52, 50, 52, 51, 52, 52, 52, 53, 52, 54, 52, 55, 52, 56, 52, 57, 53, 48, 53, 49, 53, 50, 53, 51, 53, 52, 53, 53, 53, 54, 53, 55, 53, 56, 53, 57, 54, 48, 54, 49, 54, 50, 54, 51, 54, 52, 54, 53, 54, 54, 54, 55, 54, 56, 54, 57, 55, 48, 55, 49, 55, 50, 55, 51, 55, 52, 55, 53, 55, 54, 55, 55, 55, 56, 55, 57, 56, 48, 56, 49, 56, 50, 56, 51, 56, 52, 56, 53, 56, 54, 56, 55, 56, 56, 56, 57, 57, 48, 57, 49, 57, 50, 57, 51, 57, 52, 57, 53, 57, 54, 57, 55, 57, 56, 57, 57])) (.t 119)) none,
    .mk4 11 (some 121) (.ixaS 1 (.t 110) (.t 112)) none,
    .mk4 12 none (.store 1 (.t 121) (.t 118)) none,
    .mk4 13 (some 122) (.ixaS 1 (.t 113) (.t 115)) none,
    .mk4 14 none (.store 1 (.t 122) (.t 120)) none] [0, 4, 12, 14]) (c79_3)
def c79_5 : AC :=
  .seq (.region 0 [.mk4 0 (some 104) (.mv (.t 13)) none,
    .mk4 1 (some 105) (.bin .quo (.t 104) (.c (.int .u32 100))) none,
    .mk4 2 (some 106) (.bin .mul (.t 105) (.c (.int .u32 2))) none,
    .mk4 3 (some 107) (.mv (.t 13)) none,
    .mk4 4 (some 108) (.bin .rem (.t 107) (.c (.int .u32 100))) none,
    .mk4 5 (some 109) (.bin .mul (.t 108) (.c (.int .u32 2))) none,
    .mk4 6 (some 14) (.mv (.t 106)) none,
    .mk4 7 (some 15) (.mv (.t 109)) none] [0, 4, 12, 14, 15]) (c79_4)
def c79_6 : AC :=
  .seq (.region 0 [.mk4 0 (some 100) (.mv (.t 12)) none,
    .mk4 1 (some 101) (.bin .rem (.t 100) (.c (.int .u32 10000))) none,
    .mk4 2 (some 13) (.mv (.t 101)) none] [0, 4, 12, 13]) (.seq (.region 0 [.mk4 0 (some 102) (.mv (.t 12)) none,
    .mk4 1 (some 103) (.bin .quo (.t 102) (.c (.int .u32 10000))) none,
    .mk4 2 (some 12) (.mv (.t 103)) none] [0, 4, 12, 13]) (c79_5))
def c79_7 : AC :=
  .seq (.seq (.region 0 [.mk4 0 (some 138) (.mv (.t 4)) none,
    .mk4 1 (some 139) (.bin .geq (.t 138) (.c (.i 2))) none] [0, 4, 12, 139]) (.cond (.t 139) (c79_2) (.skip))) (.seq (.region 0 [.mk4 0 (some 160) (.mv (.t 4)) none,
    .mk4 1 (some 161) (.bin .gtr (.t 160) (.c (.i 0))) none] [0, 12, 161]) (.cond (.t 161) (c79_0) (.skip)))
def c79_8 : AC :=
  .seq (.region 0 [.mk4 0 (some 81) (.mv (.t 0)) none,
    .mk4 1 (some 82) (.mv (.t 4)) none,
    .mk4 2 (some 83) (.bin .sub (.t 82) (.c (.i 7))) none,
    .mk4 3 (some 84) (.mv (.t 0)) none,
    .mk4 4 (some 85) (.mv (.t 4)) none,
    .mk4 5 (some 86) (.bin .sub (.t 85) (.c (.i 8))) none,
    .mk4 6 (some 87) (.mv (.t 10)) none,
    .mk4 7 (some 88) (.bin .add (.t 87) (.c (.int .u32 1))) none,
    .mk4 8 (some 89) (.ixStr (.c (.str [48, 48, 48, 49, 48, 50, 48, 51, 48, 52, 48, 53, 48, 54, 48, 55, 48, 56, 48, 57, 49, 48, 49, 49, 49, 50, 49, 51, 49, 52, 49, 53, 49, 54, 49, 55, 49, 56, 49, 57, 50, 48, 50, 49, 50, 50, 50, 51, 50, 52, 50, 53, 50, 54, 50, 55, 50, 56, 50, 57, 51, 48, 51, 49, 51, 50, 51, 51, 51, 52, 51, 53, 51, 54, 51, 55, 51, 56, 51, 57, 52, 48, 52, 49, 52, 50, 52, 51, 52, 52, 52, 53, 52, 54, 52, 55, 52, 56, 52, 57, 53, 48, 53, 49, 53, 50, 53, 51, 53, 52, 53, 53, 53, 54, 53, 55, 53, 56, 53, 57, 54, 48, 54, 49, 54, 50, 54, 51, 54, 52, 54, 53, 54, 54, 54, 55, 54, 56, 54, 57, 55, 48, 55, 49, 55, 50, 55, 51, 55, 52, 55, 53, 55, 54, 55, 55, 55, 56, 55, 57, 56, 48, 56, 49, 56, 50, 56, 51, 56, 52, 56, 53, 56, 54, 56, 55, 56, 56, 56, 57, 57, 48, 57, 49, 57, 50, 57, 51, 57, 52, 57, 53, 57, 54, 57, 55, 57, 56, 57, 57])) (.t 88)) none,
    .mk4 9 (some 90) (.mv (.t 10)) none,
    .mk4 10 (some 91) (.ixStr (.c (.str [48, 48, 48, 49, 48, 50, 48, 51, 48, 52, 48, 53, 48, 54, 48, 55, 48, 56, 48, 57, 49, 48, 49, 49, 49, 50, 49, 51, 49, 52, 49, 53, 49, 54, 49, 55, 49, 56, 49, 57, 50, 48, 50, 49, 50, 50, 50, 51, 50, 52, 50, 53, 50, 54, 50, 55, 50, 56, 50, 57, 51, 48, 51, 49, 51, 50, 51, 51, 51, 52, 51, 53, 51, 54, 51, 55, 51, 56, 51, 57, 52, 48, 52, 49, 52, 50, 52, 51, 52, 52, 52, 53, 52, 54, 52, 55, 52, 56, 52, 57, 53, 48, 53, 49, 53, 50, 53, 51, 53, 52, 53, 53, 53, 54, 53, 55, 53, 56, 53, 57, 54, 48, 54, 49, 54, 50, 54, 51, 54, 52, 54, 53, 54, 54, 54, 55, 54, 56, 54, 57, 55, 48, 55, 49, 55, 50, 55, 51, 55, 52, 55, 53, 55, 54, 55, 55, 55, 56, 55, 57, 56, 48, 56, 49, 56, 50, 56, 51, 56, 52, 56, 53, 56, 54, 56, 55, 56, 56, 56, 57, 57, 48, 57, 49, 57, 50, 57, 51, 57, 52, 57, 53, 57, 54, 57, 55, 57, 56, 57, 57])) (.t 90)) none,
    .mk4 11 (some 92) (.ixaS 1 (.t 81) (.t 83)) none,
    .mk4 12 none (.store 1 (.t 92) (.t 89)) none,
    .mk4 13 (some 93) (.ixaS 1 (.t 84) (.t 86)) none,
    .mk4 14 none (.store 1 (.t 93) (.t 91)) none] [0, 1, 4]) (.region 0 [.mk4 0 (some 94) (.mv (.t 4)) none,
    .mk4 1 (some 95) (.bin .sub (.t 94) (.c (.i 8))) none,
    .mk4 2 (some 4) (.mv (.t 95)) none] [0, 1, 4])
def c79_9 : AC :=
  .seq (.region 0 [.mk4 0 (some 68) (.mv (.t 0)) none,
    .mk4 1 (some 69) (.mv (.t 4)) none,
    .mk4 2 (some 70) (.bin .sub (.t 69) (.c (.i 5))) none,
    .mk4 3 (some 71) (.mv (.t 0)) none,
    .mk4 4 (some 72) (.mv (.t 4)) none,
    .mk4 5 (some 73) (.bin .sub (.t 72) (.c (.i 6))) none,
    .mk4 6 (some 74) (.mv (.t 11)) none,
    .mk4 7 (some 75) (.bin .add (.t 74) (.c (.int .u32 1))) none,
    .mk4 8 (some 76) (.ixStr (.c (.str [48, 48, 48, 49, 48, 50, 48, 51, 48, 52, 48, 53, 48, 54, 48, 55, 48, 56, 48, 57, 49, 48, 49, 49, 49, 50, 49, 51, 49, 52, 49, 53, 49, 54, 49, 55, 49, 56, 49, 57, 50, 48, 50, 49, 50, 50, 50, 51, 50, 52, 50, 53, 50, 54, 50, 55, 50, 56, 50, 57, 51, 48, 51, 49, 51, 50, 51, 51, 51, 52, 51, 53, 51, 54, 51, 55, 51, 56, 51, 57, 52, 48, 52, 49, 52, 50, 52, 51, 52, 52, 52, 53, 52, 54, 52, 55, 52, 56, 52, 57, 53, 48, 53, 49, 53, 50, 53, 51, 53, 52, 53, 53, 53, 54, 53, 55, 53, 56, 53, 57, 54, 48, 54, 49, 54, 50, 54, 51, 54, 52, 54, 53, 54, 54, 54, 55, 54, 56, 54, 57, 55, 48, 55, 49, 55, 50, 55, 51, 55, 52, 55, 53, 55, 54, 55, 55, 55, 56, 55, 57, 56, 48, 56, 49, 56, 50, 56, 51, 56, 52, 56, 53, 56, 54, 56, 55, 56, 56, 56, 57, 57, 48, 57, 49, 57, 50, 57, 51, 57, 52, 57, 53, 57, 54, 57, 55, 57, 56, 57, 57])) (.t 75)) none,
    .mk4 9 (some 77) (.mv (.t 11)) none,
    .mk4 10 (some 78) (.ixStr (.c (.str [48, 48, 48, 49, 48, 50, 48, 51, 48, 52, 48, 53, 48, 54, 48, 55, 48, 56, 48, 57, 49, 48, 49, 49, 49, 50, 49, 51, 49, 52, 49, 53, 49, 54, 49, 55, 49, 56, 49, 57, 50, 48, 50, 49, 50, 50, 50, 51, 50, 52, 50, 53, 50, 54, 50, 55, 50, 56, 50, 57, 51, 48, 51, 49, 51, 50, 51, 51, 51, 52, 51, 53, 51, 54, 51, 55, 51, 56, 51, 57, 52, 48, 52, 49, 52, 50, 52, 51, 52, 52, 52, 53, 52, 54, 52, 55, 52, 56, 52, 57, 53, 48, 53, 49, 53, 50, 53, 51, 53, 52, 53, 53, 53, 54, 53, 55, 53, 56, 53, 57, 54, 48, 54, 49, 54, 50, 54, 51, 54, 52, 54, 53, 54, 54, 54, 55, 54, 56, 54, 57, 55, 48, 55, 49, 55, 50, 55, 51, 55, 52, 55, 53, 55, 54, 55, 55, 55, 56, 55, 57, 56, 48, 56, 49, 56, 50, 56, 51, 56, 52, 56, 53, 56, 54, 56, 55, 56, 56, 56, 57, 57, 48, 57, 49, 57, 50, 57, 51, 57, 52, 57, 53, 57, 54, 57, 55, 57, 56, 57, 57])) (.t 77)) none,
    .mk4 11 (some 79) (.ixaS 1 (.t 68) (.t 70)) none,
    .mk4 12 none (.store 1 (.t 79) (.t 76)) none,
    .mk4 13 (some 80) (.ixaS 1 (.t 71) (.t 73)) none,
    .mk4 14 none (.store 1 (.t 80) (.t 78)) none] [0, 1, 4, 10]) (c79_8)
def c79_10 : AC :=
  .seq (.region 0 [.mk4 0 (some 55) (.mv (.t 0)) none,
    .mk4 1 (some 56) (.mv (.t 4)) none,
    .mk4 2 (some 57) (.bin .sub (.t 56) (.c (.i 3))) none,
    .mk4 3 (some 58) (.mv (.t 0)) none,
    .mk4 4 (some 59) (.mv (.t 4)) none,
    .mk4 5 (some 60) (.bin .sub (.t 59) (.c (.i 4))) none,
    .mk4 6 (some 61) (.mv (.t 8)) none,
    .mk4 7 (some 62) (.bin .add (.t 61) (.c (.int .u32 1))) none,
    .mk4 8 (some 63) (.ixStr (.c (.str [48, 48, 48, 49, 48, 50, 48, 51, 48, 52, 48, 53, 48, 54, 48, 55, 48, 56, 48, 57, 49, 48, 49, 49, 49, 50, 49, 51, 49, 52, 49, 53, 49, 54, 49, 55, 49, 56, 49, 57, 50, 48, 50, 49, 50, 50, 50, 51, 50, 52, 50, 53, 50, 54, 50, 55, 50, 56, 50, 57, 51, 48, 51, 49, 51, 50, 51, 51, 51, 52, 51, 53, 51, 54, 51, 55, 51, 56, 51, 57, 52, 48, 52, 49, 52, 50, 52, 51, 52, 52, 52, 53, 52, 54, 52, 55, 52, 56, 52, 57, 53, 48, 53, 49, 53, 50, 53, 51, 53, 52, 53, 53, 53, 54, 53, 55, 53, 56, 53, 57, 54, 48, 54, 49, 54, 50, 54, 51, 54, 52, 54, 53, 54, 54, 54, 55, 54, 56, 54, 57, 55, 48, 55, 49, 55, 50, 55, 51, 55, 52, 55, 53, 55, 54, 55, 55, 55, 56, 55, 57, 56, 48, 56, 49, 56, 50, 56, 51, 56, 52, 56, 53, 56, 54, 56, 55, 56, 56, 56, 57, 57, 48, 57, 49, 57, 50, 57, 51, 57, 52, 57, 53, 57, 54, 57, 55, 57, 56, 57, 57])) (.t 62)) none,
    .mk4 9 (some 64) (.mv (.t 8)) none,
    .mk4 10 (some 65) (.ixStr (.c (.str [48, 48, 48, 49, 48, 50, 48, 51, 48, 52, 48, 53, 48, 54, 48, 55, 48, 56, 48, 57, 49, 48, 49, 49, 49, 50, 49, 51, 49, 52, 49, 53, 49, 54, 49, 55, 49, 56, 49, 57, 50, 48, 50, 49, 50, 50, 50, 51, 50, 52, 50, 53, 50, 54, 50, 55, 50, 56, 50, 57, 51, 48, 51, 49, 51, 50, 51, 51, 51, 52, 51, 53, 51, 54, 51, 55, 51, 56, 51, 57, 52, 48, 52, 49, 52, 50, 52, 51, 52, 52, 52, 53, 52, 54, 52, 55, 52, 56, 52, 57, 53, 48, 53, 49, 53, 50, 53, 51, 53, 52, 53, 53, 53, 54, 53, 55, 53, 56, 53, 57, 54, 48, 54, 49, 54, 50, 54, 51, 54, 52, 54, 53, 54, 54, 54, 55, 54, 56, 54, 57, 55, 48, 55, 49, 55, 50, 55, 51, 55, 52, 55, 53, 55, 54, 55, 55, 55, 56, 55, 57, 56, 48, 56, 49, 56, 50, 56, 51, 56, 52, 56, 53, 56, 54, 56, 55, 56, 56, 56, 57, 57, 48, 57, 49, 57, 50, 57, 51, 57, 52, 57, 53, 57, 54, 57, 55, 57, 56, 57, 57])) (.t 64)) none,
    .mk4 11 (some 66) (.ixaS 1 (.t 55) (.t 57)) none,
    .mk4 12 none (.store 1 (.t 66) (.t 63)) none,
    .mk4 13 (some 67) (.ixaS 1 (.t 58) (.t 60)) none,
    .mk4 14 none (.store 1 (.t 67) (.t 65)) none] [0, 1, 4, 10, 11]) (c79_9)
def c79_11 : AC :=
  .seq (.region 0 [.mk4 0 (some 42) (.mv (.t 0)) none,
    .mk4 1 (some 43) (.mv (.t 4)) none,
    .mk4 2 (some 44) (.bin .sub (.t 43) (.c (.i 1))) none,
    .mk4 3 (some 45) (.mv (.t 0)) none,
    .mk4 4 (some 46) (.mv (.t 4)) none,
    .mk4 5 (some 47) (.bin .sub (.t 46) (.c (.i 2))) none,
    .mk4 6 (some 48) (.mv (.t 9)) none,
    .mk4 7 (some 49) (.bin .add (.t 48) (.c (.int .u32 1))) none,
    .mk4 8 (some 50) (.ixStr (.c (.str [48, 48, 48, 49, 48, 50, 48, 51, 48, 52, 48, 53, 48, 54, 48, 55, 48, 56, 48, 57, 49, 48, 49, 49, 49, 50, 49, 51, 49, 52, 49, 53, 49, 54, 49, 55, 49, 56, 49, 57, 50, 48, 50, 49, 50, 50, 50, 51, 50, 52, 50, 53, 50, 54, 50, 55, 50, 56, 50, 57, 51, 48, 51, 49, 51, 50, 51, 51, 51, 52, 51, 53, 51, 54, 51, 55, 51, 56, 51, 57, 52, 48, 52, 49, 52, 50, 52, 51, 52, 52, 52, 53, 52, 54, 52, 55, 52, 56, 52, 57, 53, 48, 53, 49, 53, 50, 53, 51, 53, 52, 53, 53, 53, 54, 53, 55, 53, 56, 53, 57, 54, 48, 54, 49, 54, 50, 54, 51, 54, 52, 54, 53, 54, 54, 54, 55, 54, 56, 54, 57, 55, 48, 55, 49, 55, 50, 55, 51, 55, 52, 55, 53, 55, 54, 55, 55, 55, 56, 55, 57, 56, 48, 56, 49, 56, 50, 56, 51, 56, 52, 56, 53, 56, 54, 56, 55, 56, 56, 56, 57, 57, 48, 57, 49, 57, 50, 57, 51, 57, 52, 57, 53, 57, 54, 57, 55, 57, 56, 57, 57])) (.t 49)) none,
    .mk4 9 (some 51) (.mv (.t 9)) none,
    .mk4 10 (some 52) (.ixStr (.c (.str [48, 48, 48, 49, 48, 50, 48, 51, 48, 52, 48, 53, 48, 54, 48, 55, 48, 56, 48, 57, 49, 48, 49, 49, 49, 50, 49, 51, 49, 52, 49, 53, 49, 54, 49, 55, 49, 56, 49, 57, 50, 48, 50, 49, 50, 50, 50, 51, 50, 52, 50, 53, 50, 54, 50, 55, 50, 56, 50, 57, 51, 48, 51, 49, 51, 50, 51, 51, 51, 52, 51, 53, 51, 54, 51, 55, 51, 56, 51, 57, 52, 48, 52, 49, 52, 50, 52, 51, 52, 52, 52, 53, 52, 54, 52, 55, 52, 56, 52, 57, 53, 48, 53, 49, 53, 50, 53, 51, 53, 52, 53, 53, 53, 54, 53, 55, 53, 56, 53, 57, 54, 48, 54, 49, 54, 50, 54, 51, 54, 52, 54, 53, 54, 54, 54, 55, 54, 56, 54, 57, 55, 48, 55, 49, 55, 50, 55, 51, 55, 52, 55, 53, 55, 54, 55, 55, 55, 56, 55, 57, 56, 48, 56, 49, 56, 50, 56, 51, 56, 52, 56, 53, 56, 54, 56, 55, 56, 56, 56, 57, 57, 48, 57, 49, 57, 50, 57, 51, 57, 52, 57, 53, 57, 54, 57, 55, 57, 56, 57, 57])) (.t 51)) none,
    .mk4 11 (some 53) (.ixaS 1 (.t 42) (.t 44)) none,
    .mk4 12 none (.store 1 (.t 53) (.t 50)) none,
    .mk4 13 (some 54) (.ixaS 1 (.t 45) (.t 47)) none,
    .mk4 14 none (.store 1 (.t 54) (.t 52)) none] [0, 1, 4, 8, 10, 11]) (c79_10)
def c79_12 : AC :=
  .seq (.region 0 [.mk4 0 (some 36) (.mv (.t 6)) none,
    .mk4 1 (some 37) (.bin .quo (.t 36) (.c (.int .u32 100))) none,
    .mk4 2 (some 38) (.bin .mul (.t 37) (.c (.int .u32 2))) none,
    .mk4 3 (some 39) (.mv (.t 6)) none,
    .mk4 4 (some 40) (.bin .rem (.t 39) (.c (.int .u32 100))) none,
    .mk4 5 (some 41) (.bin .mul (.t 40) (.c (.int .u32 2))) none,
    .mk4 6 (some 10) (.mv (.t 38)) none,
    .mk4 7 (some 11) (.mv (.t 41)) none] [0, 1, 4, 8, 9, 10, 11]) (c79_11)
def c79_13 : AC :=
  .seq (.region 0 [.mk4 0 (some 30) (.mv (.t 7)) none,
    .mk4 1 (some 31) (.bin .quo (.t 30) (.c (.int .u32 100))) none,
    .mk4 2 (some 32) (.bin .mul (.t 31) (.c (.int .u32 2))) none,
    .mk4 3 (some 33) (.mv (.t 7)) none,
    .mk4 4 (some 34) (.bin .rem (.t 33) (.c (.int .u32 100))) none,
    .mk4 5 (some 35) (.bin .mul (.t 34) (.c (.int .u32 2))) none,
    .mk4 6 (some 8) (.mv (.t 32)) none,
    .mk4 7 (some 9) (.mv (.t 35)) none] [0, 1, 4, 6, 8, 9]) (c79_12)
def c79_14 : AC :=
  .seq (.region 0 [.mk4 0 (some 26) (.mv (.t 5)) none,
    .mk4 1 (some 27) (.bin .quo (.t 26) (.c (.int .u32 10000))) none,
    .mk4 2 (some 28) (.mv (.t 5)) none,
    .mk4 3 (some 29) (.bin .rem (.t 28) (.c (.int .u32 10000))) none,
    .mk4 4 (some 6) (.mv (.t 27)) none,
    .mk4 5 (some 7) (.mv (.t 29)) none] [0, 1, 4, 6, 7]) (c79_13)
def c79_15 : AC :=
  .seq (.region 0 [.mk4 0 (some 21) (.mv (.t 1)) none,
    .mk4 1 (some 22) (.bin .rem (.t 21) (.c (.int .u64 100000000))) none,
    .mk4 2 (some 23) (.convInt .u32 (.t 22)) none,
    .mk4 3 (some 5) (.mv (.t 23)) none] [0, 1, 4, 5]) (.seq (.region 0 [.mk4 0 (some 24) (.mv (.t 1)) none,
    .mk4 1 (some 25) (.bin .quo (.t 24) (.c (.int .u64 100000000))) none,
    .mk4 2 (some 1) (.mv (.t 25)) none] [0, 1, 4, 5]) (c79_14))
def c79_16 : AC :=
  .seq (.region 0 [.mk4 0 (some 96) (.mv (.t 1)) none,
    .mk4 1 (some 97) (.convInt .u32 (.t 96)) none,
    .mk4 2 (some 12) (.mv (.t 97)) none] [0, 4, 12]) (.seq (.seq (.region 0 [.mk4 0 (some 98) (.mv (.t 4)) none,
    .mk4 1 (some 99) (.bin .geq (.t 98) (.c (.i 4))) none] [0, 4, 12, 99]) (.cond (.t 99) (c79_6) (.skip))) (c79_7))
def c79_17 : AC :=
  .seq (.region 0 [.mk4 0 (some 17) (.mv (.t 0)) none,
    .mk4 1 (some 18) (.lenL (.t 17)) none,
    .mk4 2 (some 4) (.mv (.t 18)) none] [0, 1, 4]) (.seq (.block 0 (.loop [0, 1, 4] (.seq (.seq (.region 0 [.mk4 0 (some 19) (.mv (.t 4)) none,
    .mk4 1 (some 20) (.bin .geq (.t 19) (.c (.i 8))) none] [0, 1, 4, 20]) (.cond (.t 20) (.skip) (.exit 0))) (.block 1 (c79_15))))) (c79_16))
def c79 : AFn := ⟨2, 167, [],
  (c79_17)⟩
def c80_0 : AC :=
  .cond (.t 94) (.seq (.region 0 [.mk4 0 (some 95) (.mv (.t 0)) none,
    .mk4 1 (some 96) (.mv (.t 13)) none,
    .mk4 2 (some 97) (.sliceA 65 1 (.t 12) (some (.t 96)) none none) none,
    .mk4 3 (some 98) (.append 1 1 (.t 95) (.t 97)) none,
    .mk4 4 (some 10) (.mv (.t 98)) none] [10, 11]) (.ret)) (.skip)
def c80_1 : AC :=
  .seq (.region 0 [.mk4 0 (some 90) (.mv (.t 13)) none,
    .mk4 1 (some 91) (.bin .sub (.t 90) (.c (.i 1))) none,
    .mk4 2 (some 13) (.mv (.t 91)) none] [0, 4, 10, 11, 12, 13]) (.region 0 [.mk4 0 (some 92) (.mv (.t 13)) none,
    .mk4 1 (some 93) (.ixaA 65 1 (.t 12) (.t 92)) none,
    .mk4 2 none (.store 1 (.t 93) (.c (.int .u8 45))) none] [0, 4, 10, 11, 12, 13])
def c80_2 : AC :=
  .seq (.seq (.region 0 [.mk4 0 (some 94) (.mv (.t 4)) none] [0, 10, 11, 12, 13, 94]) (c80_0)) (.seq (.region 0 [.mk4 0 (some 99) (.mv (.t 13)) none,
    .mk4 1 (some 100) (.sliceA 65 1 (.t 12) (some (.t 99)) none none) none,
    .mk4 2 (some 101) (.ofBytes (.t 100)) none,
    .mk4 3 (some 11) (.mv (.t 101)) none] [10, 11]) (.ret))
def c80_3 : AC :=
  .region 0 [.mk4 0 (some 60) (.mv (.t 13)) none,
    .mk4 1 (some 61) (.mv (.t 1)) none,
    .mk4 2 (some 62) (.ixStr (.c (.str [48, 49, 50, 51, 52, 53, 54, 55, 56, 57, 97, 98, 99, 100, 101, 102, 103, 104, 105, 106, 107, 108, 109, 110, 111, 112, 113, 114, 115, 116, 117, 118, 119, 120, 121, 122])) (.t 61)) none,
    .mk4 3 (some 63) (.ixaA 65 1 (.t 12) (.t 60)) none,
    .mk4 4 none (.store 1 (.t 63) (.t 62)) none] [0, 3, 4, 10, 11, 12, 13]
def c80_4 : AC :=
  .seq (.region 0 [.mk4 0 (some 49) (.mv (.t 13)) none,
    .mk4 1 (some 50) (.mv (.t 1)) none,
    .mk4 2 (some 51) (.mv (.t 16)) none,
    .mk4 3 (some 52) (.bin .and (.t 50) (.t 51)) none,
    .mk4 4 (some 53) (.ixStr (.c (.str [48, 49, 50, 51, 52, 53, 54, 55, 56, 57, 97, 98, 99, 100, 101, 102, 103, 104, 105, 106, 107, 108, 109, 110, 111, 112, 113, 114, 115, 116, 117, 118, 119, 120, 121, 122])) (.t 52)) none,
    .mk4 5 (some 54) (.ixaA 65 1 (.t 12) (.t 49)) none,
    .mk4 6 none (.store 1 (.t 54) (.t 53)) none] [0, 1, 3, 4, 10, 11, 12, 13, 14, 15, 16]) (.region 0 [.mk4 0 (some 55) (.mv (.t 1)) none,
    .mk4 1 (some 56) (.mv (.t 14)) none,
    .mk4 2 (some 57) (.bin .shr (.t 55) (.t 56)) none,
    .mk4 3 (some 1) (.mv (.t 57)) none] [0, 1, 3, 4, 10, 11, 12, 13, 14, 15, 16])
def c80_5 : AC :=
  .seq (.seq (.region 0 [.mk4 0 (some 44) (.mv (.t 1)) none,
    .mk4 1 (some 45) (.mv (.t 15)) none,
    .mk4 2 (some 46) (.bin .geq (.t 44) (.t 45)) none] [0, 1, 3, 4, 10, 11, 12, 13, 14, 15, 16, 46]) (.cond (.t 46) (.skip) (.exit 0))) (.block 1 (.seq (.region 0 [.mk4 0 (some 47) (.mv (.t 13)) none,
    .mk4 1 (some 48) (.bin .sub (.t 47) (.c (.i 1))) none,
    .mk4 2 (some 13) (.mv (.t 48)) none] [0, 1, 3, 4, 10, 11, 12, 13, 14, 15, 16]) (c80_4)))
def c80_6 : AC :=
  .seq (.region 0 [.mk4 0 (some 41) (.mv (.t 2)) none,
    .mk4 1 (some 42) (.convInt .u64 (.t 41)) none,
    .mk4 2 (some 43) (.bin .sub (.t 42) (.c (.int .u64 1))) none,
    .mk4 3 (some 16) (.mv (.t 43)) none] [0, 1, 3, 4, 10, 11, 12, 13, 14, 15, 16]) (.seq (.block 0 (.loop [0, 1, 3, 4, 10, 11, 12, 13, 14, 15, 16] (c80_5))) (.seq (.region 0 [.mk4 0 (some 58) (.mv (.t 13)) none,
    .mk4 1 (some 59) (.bin .sub (.t 58) (.c (.i 1))) none,
    .mk4 2 (some 13) (.mv (.t 59)) none] [0, 1, 3, 4, 10, 11, 12, 13]) (c80_3)))
def c80_7 : AC :=
  .region 0 [.mk4 0 (some 85) (.mv (.t 13)) none,
    .mk4 1 (some 86) (.mv (.t 1)) none,
    .mk4 2 (some 87) (.ixStr (.c (.str [48, 49, 50, 51, 52, 53, 54, 55, 56, 57, 97, 98, 99, 100, 101, 102, 103, 104, 105, 106, 107, 108, 109, 110, 111, 112, 113, 114, 115, 116, 117, 118, 119, 120, 121, 122])) (.t 86)) none,
    .mk4 3 (some 88) (.ixaA 65 1 (.t 12) (.t 85)) none,
    .mk4 4 none (.store 1 (.t 88) (.t 87)) none] [0, 3, 4, 10, 11, 12, 13]
def c80_8 : AC :=
  .seq (.region 0 [.mk4 0 (some 74) (.mv (.t 13)) none,
    .mk4 1 (some 75) (.mv (.t 1)) none,
    .mk4 2 (some 76) (.mv (.t 18)) none,
    .mk4 3 (some 77) (.mv (.t 17)) none,
    .mk4 4 (some 78) (.bin .mul (.t 76) (.t 77)) none,
    .mk4 5 (some 79) (.bin .sub (.t 75) (.t 78)) none,
    .mk4 6 (some 80) (.ixStr (.c (.str [48, 49, 50, 51, 52, 53, 54, 55, 56, 57, 97, 98, 99, 100, 101, 102, 103, 104, 105, 106, 107, 108, 109, 110, 111, 112, 113, 114, 115, 116, 117, 118, 119, 120, 121, 122])) (.t 79)) none,
    .mk4 7 (some 81) (.ixaA 65 1 (.t 12) (.t 74)) none,
    .mk4 8 none (.store 1 (.t 81) (.t 80)) none] [0, 3, 4, 10, 11, 12, 13, 17, 18]) (.region 0 [.mk4 0 (some 82) (.mv (.t 18)) none,
    .mk4 1 (some 1) (.mv (.t 82)) none] [0, 1, 3, 4, 10, 11, 12, 13, 17])
def c80_9 : AC :=
  .seq (.region 0 [.mk4 0 (some 69) (.mv (.t 13)) none,
    .mk4 1 (some 70) (.bin .sub (.t 69) (.c (.i 1))) none,
    .mk4 2 (some 13) (.mv (.t 70)) none] [0, 1, 3, 4, 10, 11, 12, 13, 17]) (.seq (.region 0 [.mk4 0 (some 71) (.mv (.t 1)) none,
    .mk4 1 (some 72) (.mv (.t 17)) none,
    .mk4 2 (some 73) (.bin .quo (.t 71) (.t 72)) none,
    .mk4 3 (some 18) (.mv (.t 73)) none] [0, 1, 3, 4, 10, 11, 12, 13, 17, 18]) (c80_8))
def c80_10 : AC :=
  .seq (.block 2 (.loop [0, 1, 3, 4, 10, 11, 12, 13, 17] (.seq (.seq (.region 0 [.mk4 0 (some 66) (.mv (.t 1)) none,
    .mk4 1 (some 67) (.mv (.t 17)) none,
    .mk4 2 (some 68) (.bin .geq (.t 66) (.t 67)) none] [0, 1, 3, 4, 10, 11, 12, 13, 17, 68]) (.cond (.t 68) (.skip) (.exit 2))) (.block 3 (c80_9))))) (.seq (.region 0 [.mk4 0 (some 83) (.mv (.t 13)) none,
    .mk4 1 (some 84) (.bin .sub (.t 83) (.c (.i 1))) none,
    .mk4 2 (some 13) (.mv (.t 84)) none] [0, 1, 3, 4, 10, 11, 12, 13]) (c80_7))
def c80_11 : AC :=
  .seq (.region 0 [.mk4 0 (some 35) (.mv (.t 2)) none,
    .mk4 1 (some 36) (.convInt .u64 (.t 35)) none,
    .mk4 2 (some 37) (.call 89 [(.t 36)]) none,
    .mk4 3 (some 38) (.convInt .u64 (.t 37)) none,
    .mk4 4 (some 14) (.mv (.t 38)) none] [0, 1, 2, 3, 4, 10, 11, 12, 13, 14]) (.seq (.region 0 [.mk4 0 (some 39) (.mv (.t 2)) none,
    .mk4 1 (some 40) (.convInt .u64 (.t 39)) none,
    .mk4 2 (some 15) (.mv (.t 40)) none] [0, 1, 2, 3, 4, 10, 11, 12, 13, 14, 15]) (c80_6))
def c80_12 : AC :=
  .seq (.seq (.region 0 [.mk4 0 (some 33) (.mv (.t 2)) none,
    .mk4 1 (some 34) (.call 88 [(.t 33)]) none] [0, 1, 2, 3, 4, 10, 11, 12, 13, 34]) (.cond (.t 34) (c80_11) (.seq (.region 0 [.mk4 0 (some 64) (.mv (.t 2)) none,
    .mk4 1 (some 65) (.convInt .u64 (.t 64)) none,
    .mk4 2 (some 17) (.mv (.t 65)) none] [0, 1, 3, 4, 10, 11, 12, 13, 17]) (c80_10)))) (.seq (.seq (.region 0 [.mk4 0 (some 89) (.mv (.t 3)) none] [0, 4, 10, 11, 12, 13, 89]) (.cond (.t 89) (c80_1) (.skip))) (c80_2))
def c80_13 : AC :=
  .seq (.region 0 [.mk4 0 (some 13) (.mv (.c (.i 65))) none] [0, 1, 2, 3, 4, 10, 11, 12, 13]) (.seq (.seq (.region 0 [.mk4 0 (some 30) (.mv (.t 3)) none] [0, 1, 2, 3, 4, 10, 11, 12, 13, 30]) (.cond (.t 30) (.region 0 [.mk4 0 (some 31) (.mv (.t 1)) none,
    .mk4 1 (some 32) (.un .neg (.t 31)) none,
    .mk4 2 (some 1) (.mv (.t 32)) none] [0, 1, 2, 3, 4, 10, 11, 12, 13]) (.skip))) (c80_12))
def c80_14 : AC :=
  .region 0 [.mk4 0 (some 29) (.mkIface 9 (.c (.str [115, 116, 114, 99, 111, 110, 118, 58, 32, 105, 108, 108, 101, 103, 97, 108, 32, 65, 112, 112, 101, 110, 100, 73, 110, 116, 47, 70, 111, 114, 109, 97, 116, 73, 110, 116, 32, 98, 97, 115, 101]))) none,
    .mk4 1 none (.fail) none] [0, 1, 2, 3, 4, 10, 11]
def c80_15 : AC :=
  .seq (.seq (.region 0 [.mk4 0 (some 19) (.mv (.t 2)) none,
    .mk4 1 (some 20) (.bin .lss (.t 19) (.c (.i 2))) none,
    .mk4 2 (some 21) (.mv (.t 20)) none,
    .mk4 3 (some 22) (.mv (.t 2)) (some (21, false)),
    .mk4 4 (some 23) (.bin .eql (.t 22) (.c (.i 10))) (some (21, false)),
    .mk4 5 (some 24) (.pick (.t 21) (.c (.bool true)) (.t 23)) none,
    .mk4 6 (some 25) (.mv (.t 24)) none,
    .mk4 7 (some 26) (.mv (.t 2)) (some (25, false)),
    .mk4 8 (some 27) (.bin .gtr (.t 26) (.c (.i 36))) (some (25, false)),
    .mk4 9 (some 28) (.pick (.t 25) (.c (.bool true)) (.t 27)) none] [0, 1, 2, 3, 4, 10, 11, 28]) (.cond (.t 28) (c80_14) (.skip))) (.seq (.region 0 [.mk4 0 (some 12) (.alloc 65 (List.replicate 65 (.int .u8 0 : V))) none] [0, 1, 2, 3, 4, 10, 11, 12]) (c80_13))
def c80 : AFn := ⟨5, 102, [.tmp 10, .tmp 11],
  (.seq (.region 0 [.mk4 0 (some 10) (.mv (.c (.nils))) none,
    .mk4 1 (some 11) (.mv (.c (.str []))) none] [0, 1, 2, 3, 4, 10, 11]) (c80_15))⟩
def c81_0 : AC :=
  .seq (.region 0 [.mk4 0 (some 35) (.ixaA 24 1 (.t 5) (.c (.i 0))) none,
    .mk4 1 none (.store 1 (.t 35) (.c (.int .u8 45))) none] [5, 7]) (.seq (.region 0 [.mk4 0 (some 36) (.mv (.t 7)) none,
    .mk4 1 (some 37) (.bin .add (.c (.i 1)) (.t 36)) none,
    .mk4 2 (some 38) (.sliceA 24 1 (.t 5) none (some (.t 37)) none) none,
    .mk4 3 (some 39) (.ofBytes (.t 38)) none,
    .mk4 4 (some 4) (.mv (.t 39)) none] [4]) (.ret))
def c81_1 : AC :=
  .seq (.seq (.region 0 [.mk4 0 (some 33) (.mv (.t 0)) none,
    .mk4 1 (some 34) (.bin .lss (.t 33) (.c (.i 0))) none] [5, 7, 34]) (.cond (.t 34) (c81_0) (.skip))) (.seq (.region 0 [.mk4 0 (some 40) (.mv (.t 7)) none,
    .mk4 1 (some 41) (.bin .add (.c (.i 1)) (.t 40)) none,
    .mk4 2 (some 42) (.sliceA 24 1 (.t 5) (some (.c (.i 1))) (some (.t 41)) none) none,
    .mk4 3 (some 43) (.ofBytes (.t 42)) none,
    .mk4 4 (some 4) (.mv (.t 43)) none] [4]) (.ret))
def c81_2 : AC :=
  .seq (.region 0 [.mk4 0 (some 28) (.mv (.t 7)) none,
    .mk4 1 (some 29) (.bin .add (.c (.i 1)) (.t 28)) none,
    .mk4 2 (some 30) (.sliceA 24 1 (.t 5) (some (.c (.i 1))) (some (.t 29)) none) none,
    .mk4 3 (some 31) (.mv (.t 6)) none,
    .mk4 4 (some 32) (.call 79 [(.t 30), (.t 31)]) none] [0, 5, 7]) (c81_1)
def c81_3 : AC :=
  .seq (.seq (.region 0 [.mk4 0 (some 22) (.mv (.t 0)) none,
    .mk4 1 (some 23) (.bin .lss (.t 22) (.c (.i 0))) none] [0, 5, 6, 23]) (.cond (.t 23) (.region 0 [.mk4 0 (some 24) (.mv (.t 6)) none,
    .mk4 1 (some 25) (.un .neg (.t 24)) none,
    .mk4 2 (some 6) (.mv (.t 25)) none] [0, 5, 6]) (.skip))) (.seq (.region 0 [.mk4 0 (some 26) (.mv (.t 6)) none,
    .mk4 1 (some 27) (.call 78 [(.t 26)]) none,
    .mk4 2 (some 7) (.mv (.t 27)) none] [0, 5, 6, 7]) (c81_2))
def c81_4 : AC :=
  .seq (.seq (.region 0 [.mk4 0 (some 12) (.mv (.t 0)) none,
    .mk4 1 (some 13) (.bin .leq (.c (.i 0)) (.t 12)) none,
    .mk4 2 (some 14) (.mv (.t 13)) none,
    .mk4 3 (some 15) (.mv (.t 0)) (some (14, true)),
    .mk4 4 (some 16) (.bin .lss (.t 15) (.c (.i 100))) (some (14, true)),
    .mk4 5 (some 17) (.pick (.t 14) (.t 16) (.c (.bool false))) none] [0, 17]) (.cond (.t 17) (.seq (.region 0 [.mk4 0 (some 18) (.mv (.t 0)) none,
    .mk4 1 (some 19) (.call 77 [(.t 18)]) none,
    .mk4 2 (some 4) (.mv (.t 19)) none] [4]) (.ret)) (.skip))) (.seq (.region 0 [.mk4 0 (some 5) (.alloc 24 (List.replicate 24 (.int .u8 0 : V))) none] [0, 5]) (.seq (.region 0 [.mk4 0 (some 20) (.mv (.t 0)) none,
    .mk4 1 (some 21) (.convInt .u64 (.t 20)) none,
    .mk4 2 (some 6) (.mv (.t 21)) none] [0, 5, 6]) (c81_3)))
def c81_5 : AC :=
  .seq (.region 0 [.mk4 0 (some 45) (.mv (.t 0)) none,
    .mk4 1 (some 46) (.convInt .u64 (.t 45)) none,
    .mk4 2 (some 47) (.mv (.t 1)) none,
    .mk4 3 (some 48) (.mv (.t 0)) none,
    .mk4 4 (some 49) (.bin .lss (.t 48) (.c (.i 0))) none,
    .mk4 5 (some 50) (.call 80 [(.c (.nils)), (.t 46), (.t 47), (.t 49), (.c (.bool false))]) none,
    .mk4 6 (some 44) (.mv (.t 50)) none,
    .mk4 7 (some 51) (.extract (.t 44) 0) none,
    .mk4 8 (some 52) (.extract (.t 44) 1) none,
    .mk4 9 (some 8) (.mv (.t 51)) none,
    .mk4 10 (some 9) (.mv (.t 52)) none] [9]) (.seq (.region 0 [.mk4 0 (some 53) (.mv (.t 9)) none,
    .mk4 1 (some 4) (.mv (.t 53)) none] [4]) (.ret))
def c81 : AFn := ⟨2, 54, [.tmp 4],
  (.seq (.region 0 [.mk4 0 (some 4) (.mv (.c (.str []))) none] [0, 1]) (.seq (.seq (.region 0 [.mk4 0 (some 10) (.mv (.t 1)) none,
    .mk4 1 (some 11) (.bin .eql (.t 10) (.c (.i 10))) none] [0, 1, 11]) (.cond (.t 11) (c81_4) (.skip))) (c81_5)))⟩
def c84_0 : AC :=
  .seq (.region 0 [.mk4 0 (some 35) (.load1 (.t 2)) none,
    .mk4 1 (some 36) (.mv (.t 6)) none,
    .mk4 2 (some 37) (.lenL (.t 36)) none,
    .mk4 3 (some 38) (.bin .add (.t 35) (.t 37)) none,
    .mk4 4 none (.store 1 (.t 2) (.t 38)) none] [0, 1, 2, 3, 6]) (.region 0 [.mk4 0 (some 39) (.load1 (.t 1)) none,
    .mk4 1 (some 40) (.mv (.t 6)) none,
    .mk4 2 (some 41) (.lenL (.t 40)) none,
    .mk4 3 (some 42) (.bin .sub (.t 39) (.t 41)) none,
    .mk4 4 none (.store 1 (.t 1) (.t 42)) none] [0, 1, 2, 3])
def c84_1 : AC :=
  .seq (.region 0 [.mk4 0 (some 16) (.load1 (.t 3)) none,
    .mk4 1 (some 17) (.nilck (.t 16)) none,
    .mk4 2 (some 18) (.faddr 0 (.t 17)) none,
    .mk4 3 (some 19) (.load1 (.t 18)) none,
    .mk4 4 (some 20) (.mv (.t 5)) none,
    .mk4 5 (some 21) (.mv (.t 5)) none,
    .mk4 6 (some 22) (.load1 (.t 1)) none,
    .mk4 7 (some 23) (.bin .add (.t 21) (.t 22)) none,
    .mk4 8 (some 24) (.load1 (.t 3)) none,
    .mk4 9 (some 25) (.nilck (.t 24)) none,
    .mk4 10 (some 26) (.faddr 0 (.t 25)) none,
    .mk4 11 (some 27) (.load1 (.t 26)) none,
    .mk4 12 (some 28) (.lenL (.t 27)) none,
    .mk4 13 (some 29) (.minI [(.t 23), (.t 28)]) none,
    .mk4 14 (some 30) (.slice 1 (.t 19) (some (.t 20)) (some (.t 29)) none) none,
    .mk4 15 (some 6) (.mv (.t 30)) none] [0, 1, 2, 3, 6]) (.seq (.seq (.region 0 [.mk4 0 (some 31) (.mv (.t 0)) none,
    .mk4 1 (some 32) (.mv (.t 6)) none,
    .mk4 2 (some 33) (.callv (.t 31) [(.t 32)]) none,
    .mk4 3 (some 34) (.un .not (.t 33)) none] [0, 1, 2, 3, 6, 34]) (.cond (.t 34) (.exit 0) (.skip))) (c84_0))
def c84_2 : AC :=
  .seq (.region 0 [.mk4 0 (some 9) (.load1 (.t 2)) none,
    .mk4 1 (some 10) (.load1 (.t 3)) none,
    .mk4 2 (some 11) (.nilck (.t 10)) none,
    .mk4 3 (some 12) (.faddr 0 (.t 11)) none,
    .mk4 4 (some 13) (.load1 (.t 12)) none,
    .mk4 5 (some 14) (.lenL (.t 13)) none,
    .mk4 6 (some 15) (.bin .rem (.t 9) (.t 14)) none,
    .mk4 7 (some 5) (.mv (.t 15)) none] [0, 1, 2, 3, 5]) (c84_1)
def c84 : AFn := ⟨4, 43, [],
  (.scope (.seq (.label 0) (.block 0 (.loop [0, 1, 2, 3] (.seq (.seq (.region 0 [.mk4 0 (some 7) (.load1 (.t 1)) none,
    .mk4 1 (some 8) (.bin .gtr (.t 7) (.c (.i 0))) none] [0, 1, 2, 3, 8]) (.cond (.t 8) (.skip) (.exit 0))) (.block 1 (c84_2)))))))⟩
def c85 : AFn := ⟨1, 6, [.tmp 2],
  (.seq (.region 0 [.mk4 0 (some 2) (.mv (.c (.i 0))) none] [0]) (.seq (.region 0 [.mk4 0 (some 3) (.mv (.t 0)) none,
    .mk4 1 (some 4) (.bin .mul (.t 3) (.c (.i 78913))) none,
    .mk4 2 (some 5) (.bin .shr (.t 4) (.c (.int .u64 18))) none,
    .mk4 3 (some 2) (.mv (.t 5)) none] [2]) (.ret)))⟩
def c86_0 : AC :=
  .seq (.region 0 [.mk4 0 (some 15) (.mv (.t 0)) none,
    .mk4 1 (some 16) (.bin .shr (.t 15) (.c (.int .u64 8))) none,
    .mk4 2 (some 0) (.mv (.t 16)) none] [0, 2]) (.region 0 [.mk4 0 (some 17) (.mv (.t 2)) none,
    .mk4 1 (some 18) (.bin .add (.t 17) (.c (.i 8))) none,
    .mk4 2 (some 2) (.mv (.t 18)) none] [0, 2])
def c86_1 : AC :=
  .seq (.region 0 [.mk4 0 (some 19) (.mv (.t 2)) none,
    .mk4 1 (some 20) (.mv (.t 0)) none,
    .mk4 2 (some 21) (.convInt .u8 (.t 20)) none,
    .mk4 3 (some 22) (.ixStr (.c (.str [0, 1, 2, 2, 3, 3, 3, 3, 4, 4, 4, 4, 4, 4, 4, 4, 5, 5, 5, 5, 5, 5, 5, 5, 5, 5, 5, 5, 5, 5, 5, 5, 6, 6, 6, 6, 6, 6, 6, 6, 6, 6, 6, 6, 6, 6, 6, 6, 6, 6, 6, 6, 6, 6, 6, 6, 6, 6, 6, 6, 6, 6, 6, 6, 7, 7, 7, 7, 7, 7, 7, 7, 7, 7, 7, 7, 7, 7, 7, 7, 7, 7, 7, 7, 7, 7, 7, 7, 7, 7, 7, 7, 7, 7, 7, 7, 7, 7, 7, 7, 7, 7, 7, 7, 7, 7, 7, 7, 7, 7, 7, 7, 7, 7, 7, 7, 7, 7, 7, 7, 7, 7, 7, 7, 7, 7, 7, 7, 8, 8, 8, 8, 8, 8, 8, 8, 8, 8, 8, 8, 8, 8, 8, 8, 8, 8, 8, 8, 8, 8, 8, 8, 8, 8, 8, 8, 8, 8, 8, 8, 8, 8, 8, 8, 8, 8, 8, 8, 8, 8, 8, 8, 8, 8, 8, 8, 8, 8, 8, 8, 8, 8, 8, 8, 8, 8, 8, 8, 8, 8, 8, 8, 8, 8, 8, 8, 8, 8, 8, 8, 8, 8, 8, 8, 8, 8, 8, 8, 8, 8, 8, 8, 8, 8, 8, 8, 8, 8, 8, 8, 8, 8, 8, 8, 8, 8, 8, 8, 8, 8, 8, 8, 8, 8, 8, 8, 8, 8, 8, 8, 8, 8, 8, 8, 8, 8, 8, 8, 8, 8, 8, 8, 8, 8, 8, 8])) (.t 21)) none,
    .mk4 4 (some 23) (.convInt .i64 (.t 22)) none,
    .mk4 5 (some 24) (.bin .add (.t 19) (.t 23)) none,
    .mk4 6 (some 2) (.mv (.t 24)) none] [2]) (.ret)
def c86_2 : AC :=
  .seq (.region 0 [.mk4 0 (some 9) (.mv (.t 0)) none,
    .mk4 1 (some 10) (.bin .shr (.t 9) (.c (.int .u64 16))) none,
    .mk4 2 (some 0) (.mv (.t 10)) none] [0, 2]) (.region 0 [.mk4 0 (some 11) (.mv (.t 2)) none,
    .mk4 1 (some 12) (.bin .add (.t 11) (.c (.i 16))) none,
    .mk4 2 (some 2) (.mv (.t 12)) none] [0, 2])
def c86_3 : AC :=
  .seq (.seq (.region 0 [.mk4 0 (some 7) (.mv (.t 0)) none,
    .mk4 1 (some 8) (.bin .geq (.t 7) (.c (.int .u64 65536))) none] [0, 2, 8]) (.cond (.t 8) (c86_2) (.skip))) (.seq (.seq (.region 0 [.mk4 0 (some 13) (.mv (.t 0)) none,
    .mk4 1 (some 14) (.bin .geq (.t 13) (.c (.int .u64 256))) none] [0, 2, 14]) (.cond (.t 14) (c86_0) (.skip))) (c86_1))
def c86_4 : AC :=
  .seq (.seq (.region 0 [.mk4 0 (some 3) (.mv (.t 0)) none,
    .mk4 1 (some 4) (.bin .geq (.t 3) (.c (.int .u64 4294967296))) none] [0, 2, 4]) (.cond (.t 4) (.seq (.region 0 [.mk4 0 (some 5) (.mv (.t 0)) none,
    .mk4 1 (some 6) (.bin .shr (.t 5) (.c (.int .u64 32))) none,
    .mk4 2 (some 0) (.mv (.t 6)) none] [0]) (.region 0 [.mk4 0 (some 2) (.mv (.c (.i 32))) none] [0, 2])) (.skip))) (c86_3)
def c86 : AFn := ⟨1, 25, [.tmp 2],
  (.seq (.region 0 [.mk4 0 (some 2) (.mv (.c (.i 0))) none] [0, 2]) (c86_4))⟩
def c87 : AFn := ⟨1, 4, [.tmp 2],
  (.seq (.region 0 [.mk4 0 (some 2) (.mv (.c (.i 0))) none] [0]) (.seq (.seq (.region 0 [.mk4 0 (some 3) (.mv (.t 0)) none] [3]) (.cond (.t 3) (.seq (.region 0 [.mk4 0 (some 2) (.mv (.c (.i 1))) none] [2]) (.ret)) (.skip))) (.seq (.region 0 [.mk4 0 (some 2) (.mv (.c (.i 0))) none] [2]) (.ret))))⟩
def c88_0 : AC :=
  .seq (.region 0 [.mk4 0 (some 3) (.mv (.t 0)) none,
    .mk4 1 (some 4) (.mv (.t 0)) none,
    .mk4 2 (some 5) (.bin .sub (.t 4) (.c (.i 1))) none,
    .mk4 3 (some 6) (.bin .and (.t 3) (.t 5)) none,
    .mk4 4 (some 7) (.bin .eql (.t 6) (.c (.i 0))) none,
    .mk4 5 (some 2) (.mv (.t 7)) none] [2]) (.ret)
def c88 : AFn := ⟨1, 8, [.tmp 2],
  (.seq (.region 0 [.mk4 0 (some 2) (.mv (.c (.bool false))) none] [0]) (c88_0))⟩
def c89_0 : AC :=
  .seq (.cond (.c (.bool false)) (.seq (.region 0 [.mk4 0 (some 3) (.mv (.t 0)) none,
    .mk4 1 (some 4) (.convInt .u32 (.t 3)) none,
    .mk4 2 (some 5) (.call 92 [(.t 4)]) none,
    .mk4 3 (some 2) (.mv (.t 5)) none] [2]) (.ret)) (.skip)) (.seq (.region 0 [.mk4 0 (some 6) (.mv (.t 0)) none,
    .mk4 1 (some 7) (.call 93 [(.t 6)]) none,
    .mk4 2 (some 2) (.mv (.t 7)) none] [2]) (.ret))
def c89 : AFn := ⟨1, 8, [.tmp 2],
  (.seq (.region 0 [.mk4 0 (some 2) (.mv (.c (.i 0))) none] [0]) (c89_0))⟩
def c92_0 : AC :=
  .seq (.region 0 [.mk4 0 (some 5) (.mv (.t 0)) none,
    .mk4 1 (some 6) (.mv (.t 0)) none,
    .mk4 2 (some 7) (.un .neg (.t 6)) none,
    .mk4 3 (some 8) (.bin .and (.t 5) (.t 7)) none,
    .mk4 4 (some 9) (.bin .mul (.t 8) (.c (.int .u32 125613361))) none,
    .mk4 5 (some 10) (.bin .shr (.t 9) (.c (.int .u64 27))) none,
    .mk4 6 (some 11) (.ixaA 32 1 (.c (.p 2 0)) (.t 10)) none,
    .mk4 7 (some 12) (.load1 (.t 11)) none,
    .mk4 8 (some 13) (.convInt .i64 (.t 12)) none,
    .mk4 9 (some 2) (.mv (.t 13)) none] [2]) (.ret)
def c92 : AFn := ⟨1, 14, [.tmp 2],
  (.seq (.region 0 [.mk4 0 (some 2) (.mv (.c (.i 0))) none] [0]) (.seq (.seq (.region 0 [.mk4 0 (some 3) (.mv (.t 0)) none,
    .mk4 1 (some 4) (.bin .eql (.t 3) (.c (.int .u32 0))) none] [0, 4]) (.cond (.t 4) (.seq (.region 0 [.mk4 0 (some 2) (.mv (.c (.i 32))) none] [2]) (.ret)) (.skip))) (c92_0)))⟩
def c93_0 : AC :=
  .seq (.region 0 [.mk4 0 (some 5) (.mv (.t 0)) none,
    .mk4 1 (some 6) (.mv (.t 0)) none,
    .mk4 2 (some 7) (.un .neg (.t 6)) none,
    .mk4 3 (some 8) (.bin .and (.t 5) (.t 7)) none,
    .mk4 4 (some 9) (.bin .mul (.t 8) (.c (.int .u64 285870213051353865))) none,
    .mk4 5 (some 10) (.bin .shr (.t 9) (.c (.int .u64 58))) none,
    .mk4 6 (some 11) (.ixaA 64 1 (.c (.p 3 0)) (.t 10)) none,
    .mk4 7 (some 12) (.load1 (.t 11)) none,
    .mk4 8 (some 13) (.convInt .i64 (.t 12)) none,
    .mk4 9 (some 2) (.mv (.t 13)) none] [2]) (.ret)
def c93 : AFn := ⟨1, 14, [.tmp 2],
  (.seq (.region 0 [.mk4 0 (some 2) (.mv (.c (.i 0))) none] [0]) (.seq (.seq (.region 0 [.mk4 0 (some 3) (.mv (.t 0)) none,
    .mk4 1 (some 4) (.bin .eql (.t 3) (.c (.int .u64 0))) none] [0, 4]) (.cond (.t 4) (.seq (.region 0 [.mk4 0 (some 2) (.mv (.c (.i 64))) none] [2]) (.ret)) (.skip))) (c93_0)))⟩
def prog : Prog := { fns := [(3, c3), (4, c4), (5, c5), (6, c6), (7, c7), (8, c8), (9, c9), (10, c10), (11, c11), (12, c12), (13, c13), (14, c14), (15, c15), (16, c16), (17, c17), (18, c18), (19, c19), (20, c20), (21, c21), (22, c22), (23, c23), (24, c24), (25, c25), (26, c26), (27, c27), (28, c28), (29, c29), (30, c30), (31, c31), (32, c32), (33, c33), (34, c34), (35, c35), (36, c36), (37, c37), (38, c38), (39, c39), (40, c40), (41, c41), (42, c42), (43, c43), (44, c44), (45, c45), (46, c46), (47, c47), (48, c48), (49, c49), (50, c50), (51, c51), (52, c52), (53, c53), (54, c54), (55, c55), (56, c56), (57, c57), (58, c58), (59, c59), (60, c60), (61, c61), (62, c62), (63, c63), (64, c64), (65, c65), (66, c66), (67, c67), (68, c68), (69, c69), (70, c70), (72, c72), (74, c74), (75, c75), (76, c76), (77, c77), (78, c78), (79, c79), (80, c80), (81, c81), (84, c84), (85, c85), (86, c86), (87, c87), (88, c88), (89, c89), (92, c92), (93, c93)], prims := [] }
def cx : Cx := ⟨[(2, ⟨.int .i64, 1, 8, (some (.i 0)), false⟩),
  (3, ⟨.int .i64, 1, 8, (some (.i 0)), false⟩),
  (4, ⟨.bool, 1, 1, (some (.bool false)), false⟩),
  (5, ⟨.int .u8, 1, 1, (some (.int .u8 0)), false⟩),
  (9, ⟨.str, 1, 16, (some (.str [])), false⟩),
  (22, ⟨.ptr 52, 1, 8, (some (.ptr none)), false⟩),
  (24, ⟨.int .i64, 1, 8, (some (.i 0)), false⟩),
  (29, ⟨.slice 5, 1, 24, (some (.nils)), false⟩),
  (35, ⟨.int .u64, 1, 8, (some (.int .u64 0)), false⟩),
  (37, ⟨.struct [(0, 4), (1, 4), (2, 4), (3, 4), (4, 4), (5, 35), (6, 35)], 7, 24, (some (.agg [.bool false, .bool false, .bool false, .bool false, .bool false, .int .u64 0, .int .u64 0])), true⟩),
  (42, ⟨.slice 45, 1, 24, (some (.nils)), false⟩),
  (45, ⟨.struct [(0, 3), (1, 3)], 2, 16, (some (.agg [.i 0, .i 0])), true⟩),
  (47, ⟨.struct [(0, 4), (1, 3), (2, 3)], 3, 24, (some (.agg [.bool false, .i 0, .i 0])), false⟩),
  (48, ⟨.array 96 47, 288, 2304, (some (.agg ((List.replicate 96 ([.bool false, .i 0, .i 0] : List V)).flatten))), false⟩),
  (49, ⟨.slice 61, 1, 24, (some (.nils)), false⟩),
  (50, ⟨.ptr 92, 1, 8, (some (.ptr none)), false⟩),
  (52, ⟨.struct [(0, 48), (288, 49), (289, 50), (290, 35), (291, 47)], 294, 2368, (some (.agg ((List.replicate 96 ([.bool false, .i 0, .i 0] : List V)).flatten ++ [.nils, .ptr none, .int .u64 0, .bool false, .i 0, .i 0]))), false⟩),
  (55, ⟨.slice 3, 1, 24, (some (.nils)), false⟩),
  (57, ⟨.slice 9, 1, 24, (some (.nils)), false⟩),
  (61, ⟨.ptr 68, 1, 8, (some (.ptr none)), false⟩),
  (63, ⟨.ptr 101, 1, 8, (some (.ptr none)), false⟩),
  (65, ⟨.struct [(0, 3), (1, 3), (2, 63), (3, 4), (4, 4), (5, 35), (6, 35)], 7, 48, (some (.agg [.i 0, .i 0, .ptr none, .bool false, .bool false, .int .u64 0, .int .u64 0])), false⟩),
  (66, ⟨.array 2 65, 14, 96, (some (.agg [.i 0, .i 0, .ptr none, .bool false, .bool false, .int .u64 0, .int .u64 0, .i 0, .i 0, .ptr none, .bool false, .bool false, .int .u64 0, .int .u64 0])), false⟩),
  (68, ⟨.struct [(0, 66), (14, 4), (15, 3), (16, 55)], 17, 136, (some (.agg [.i 0, .i 0, .ptr none, .bool false, .bool false, .int .u64 0, .int .u64 0, .i 0, .i 0, .ptr none, .bool false, .bool false, .int .u64 0, .int .u64 0, .bool false, .i 0, .nils])), false⟩),
  (89, ⟨.array 32 4, 32, 32, (some (.agg (List.replicate 32 (.bool false : V)))), false⟩),
  (90, ⟨.array 32 3, 32, 256, (some (.agg (List.replicate 32 (.i 0 : V)))), false⟩),
  (92, ⟨.struct [(0, 89), (32, 90)], 64, 288, (some (.agg (List.replicate 32 (.bool false : V) ++ List.replicate 32 (.i 0 : V)))), false⟩),
  (101, ⟨.struct [(0, 29), (1, 3), (2, 3), (3, 35), (4, 35), (5, 4)], 6, 64, (some (.agg [.nils, .i 0, .i 0, .int .u64 0, .int .u64 0, .bool false])), false⟩),
  (106, ⟨.ptr 108, 1, 8, (some (.ptr none)), false⟩),
  (108, ⟨.struct [(0, 106), (1, 29)], 2, 32, (some (.agg [.ptr none, .nils])), false⟩),
  (118, ⟨.array 24 5, 24, 24, (some (.agg (List.replicate 24 (.int .u8 0 : V)))), false⟩),
  (124, ⟨.int .u64, 1, 8, (some (.int .u64 0)), false⟩),
  (128, ⟨.array 20 35, 20, 160, (some (.agg (List.replicate 20 (.int .u64 0 : V)))), false⟩),
  (129, ⟨.int .u32, 1, 4, (some (.int .u32 0)), false⟩),
  (130, ⟨.array 65 5, 65, 65, (some (.agg (List.replicate 65 (.int .u8 0 : V)))), false⟩),
  (135, ⟨.array 32 5, 32, 32, (some (.agg (List.replicate 32 (.int .u8 0 : V)))), false⟩),
  (136, ⟨.array 64 5, 64, 64, (some (.agg (List.replicate 64 (.int .u8 0 : V)))), false⟩)], [0, 2, 3]⟩
def lit_math_bits_deBruijn32tab : List V := [.int .u8 0, .int .u8 1, .int .u8 28, .int .u8 2, .int .u8 29, .int .u8 14, .int .u8 24, .int .u8 3, .int .u8 30, .int .u8 22, .int .u8 20, .int .u8 15, .int .u8 25, .int .u8 17, .int .u8 4, .int .u8 8, .int .u8 31, .int .u8 27, .int .u8 13, .int .u8 23, .int .u8 21, .int .u8 19, .int .u8 16, .int .u8 7, .int .u8 26, .int .u8 12, .int .u8 18, .int .u8 6, .int .u8 11, .int .u8 5, .int .u8 10, .int .u8 9]
def lit_math_bits_deBruijn64tab : List V := [.int .u8 0, .int .u8 1, .int .u8 56, .int .u8 2, .int .u8 57, .int .u8 49, .int .u8 28, .int .u8 3, .int .u8 61, .int .u8 58, .int .u8 42, .int .u8 50, .int .u8 38, .int .u8 29, .int .u8 17, .int .u8 4, .int .u8 62, .int .u8 47, .int .u8 59, .int .u8 36, .int .u8 45, .int .u8 43, .int .u8 51, .int .u8 22, .int .u8 53, .int .u8 39, .int .u8 33, .int .u8 30, .int .u8 24, .int .u8 18, .int .u8 12, .int .u8 5, .int .u8 63, .int .u8 55, .int .u8 48, .int .u8 27, .int .u8 60, .int .u8 41, .int .u8 37, .int .u8 16, .int .u8 46, .int .u8 35, .int .u8 44, .int .u8 21, .int .u8 52, .int .u8 32, .int .u8 23, .int .u8 11, .int .u8 54, .int .u8 26, .int .u8 40, .int .u8 15, .int .u8 34, .int .u8 20, .int .u8 31, .int .u8 10, .int .u8 25, .int .u8 14, .int .u8 19, .int .u8 9, .int .u8 13, .int .u8 8, .int .u8 7, .int .u8 6]
def lit_internal_strconv_uint64pow10 : List V := [.int .u64 1, .int .u64 10, .int .u64 100, .int .u64 1000, .int .u64 10000, .int .u64 100000, .int .u64 1000000, .int .u64 10000000, .int .u64 100000000, .int .u64 1000000000, .int .u64 10000000000, .int .u64 100000000000, .int .u64 1000000000000, .int .u64 10000000000000, .int .u64 100000000000000, .int .u64 1000000000000000, .int .u64 10000000000000000, .int .u64 100000000000000000, .int .u64 1000000000000000000, .int .u64 10000000000000000000]
namespace F
abbrev roundhouselaw11_WorldNames : Nat := 3
abbrev world_New : Nat := 4
abbrev world_World_Outer : Nat := 5
abbrev world_World_Put : Nat := 6
abbrev world_World_Read : Nat := 7
abbrev world_World_PeerShut : Nat := 8
abbrev world_World_Write : Nat := 9
abbrev world_World_Take : Nat := 10
abbrev world_World_Ready : Nat := 11
abbrev world_World_PeerClose : Nat := 12
abbrev world_World_Listen : Nat := 13
abbrev world_World_Connect : Nat := 14
abbrev world_World_Accept : Nat := 15
abbrev world_World_Pair : Nat := 16
abbrev world_World_Notice : Nat := 17
abbrev world_World_Handle : Nat := 18
abbrev world_World_Raise : Nat := 19
abbrev world_World_Signals : Nat := 20
abbrev world_World_Pipe : Nat := 21
abbrev world_World_Pass : Nat := 22
abbrev world_World_Close : Nat := 23
abbrev world_World_Reset : Nat := 24
abbrev world_World_Now : Nat := 25
abbrev world_World_Fds : Nat := 26
abbrev world_World_Image : Nat := 27
abbrev roundhouselaw11_alive : Nat := 28
abbrev sigs_New : Nat := 29
abbrev world_both : Nat := 30
abbrev world_World_make : Nat := 31
abbrev world_World_outer : Nat := 32
abbrev world_wire_put : Nat := 33
abbrev world_World_find : Nat := 34
abbrev world_wire_take : Nat := 35
abbrev world_wire_silent : Nat := 36
abbrev world_wire_shut : Nat := 37
abbrev ring_Ring_Len : Nat := 38
abbrev ring_Ring_Room : Nat := 39
abbrev world_wire_close : Nat := 40
abbrev world_World_none : Nat := 41
abbrev world_capacity : Nat := 42
abbrev slices_Clone_int_int : Nat := 43
abbrev world_World_free : Nat := 44
abbrev world_World_noticed : Nat := 45
abbrev sigs_Sigs_Handle : Nat := 46
abbrev sigs_Sigs_Raise : Nat := 47
abbrev sigs_Sigs_Take : Nat := 48
abbrev ring_Ring_Clear : Nat := 49
abbrev world_wire_came : Nat := 50
abbrev strconv_FormatUint : Nat := 51
abbrev strconv_Itoa : Nat := 52
abbrev world_end_words : Nat := 53
abbrev strings_Join : Nat := 54
abbrev sigs_Sigs_Handled : Nat := 55
abbrev sigs_Sigs_Count : Nat := 56
abbrev ring_New : Nat := 57
abbrev world_World_numbers : Nat := 58
abbrev world_World_open : Nat := 59
abbrev ring_Ring_Put : Nat := 60
abbrev ring_Ring_Take : Nat := 61
abbrev ring_Ring_none : Nat := 62
abbrev world_World_free_1 : Nat := 63
abbrev sigs_Sigs_Pending : Nat := 64
abbrev sigs_Sigs_may : Nat := 65
abbrev sigs_Sigs_counts : Nat := 66
abbrev internal_strconv_FormatUint : Nat := 67
abbrev internal_strconv_Itoa : Nat := 68
abbrev world_hex : Nat := 69
abbrev ring_Ring_Look : Nat := 70
abbrev strings_Builder_WriteString : Nat := 72
abbrev ring_Ring_pieces : Nat := 74
abbrev sigs_is : Nat := 75
abbrev sigs_Sigs_counts_1 : Nat := 76
abbrev internal_strconv_small : Nat := 77
abbrev internal_strconv_numDigits : Nat := 78
abbrev internal_strconv_formatBase10 : Nat := 79
abbrev internal_strconv_formatBits : Nat := 80
abbrev internal_strconv_FormatInt : Nat := 81
abbrev ring_Ring_pieces_1 : Nat := 84
abbrev internal_strconv_log10Pow2 : Nat := 85
abbrev math_bits_Len64 : Nat := 86
abbrev internal_strconv_bool2_int : Nat := 87
abbrev internal_strconv_isPowerOfTwo : Nat := 88
abbrev math_bits_TrailingZeros : Nat := 89
abbrev math_bits_TrailingZeros32 : Nat := 92
abbrev math_bits_TrailingZeros64 : Nat := 93
end F
end Am.Sigs
