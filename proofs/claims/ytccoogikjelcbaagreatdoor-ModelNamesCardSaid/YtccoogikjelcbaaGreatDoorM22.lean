/- Our own library, part 22. -/
import Derived.Test.YtccoogikjelcbaaGreatDoorM16
import Derived.Test.YtccoogikjelcbaaGreatDoorM17
import Derived.Test.YtccoogikjelcbaaGreatDoorM18
import Derived.Test.YtccoogikjelcbaaGreatDoorM19
import Derived.Test.YtccoogikjelcbaaGreatDoorM20
import Derived.Test.YtccoogikjelcbaaGreatDoorM21
set_option maxHeartbeats 8000000
set_option maxRecDepth 800
set_option linter.all false
namespace Am.Sigs
open Am Go
set_option maxRecDepth 100000 in
theorem uT33 {h:H} (m:Meets uS30 h) : ∃ h',runL (jac prog fuel 58) fuel (((flat (lpB (blkB (nC c4.body 6))))).drop 0) uS30.E h=some (.normal,uS36.E,h')/\Meets uS36 h':=by
 obtain ⟨h1,r1,m1⟩:=jal (jaa 58).1 (jaa 58).2 uK37 m
 exact ⟨h1,(r1),m1⟩
set_option maxRecDepth 100000 in
theorem uT38 {h:H} (m:Meets uS36 h) : ∃ h',runL (jac prog fuel 58) fuel (((flat (lpB (blkB (nC c4.body 6))))).drop 0) uS36.E h=some (.normal,uS41.E,h')/\Meets uS41 h':=by
 obtain ⟨h1,r1,m1⟩:=jal (jaa 58).1 (jaa 58).2 uK42 m
 exact ⟨h1,(r1),m1⟩
set_option maxRecDepth 100000 in
theorem uT43 {h:H} (m:Meets uS41 h) : ∃ h',runL (jac prog fuel 58) fuel (((flat (lpB (blkB (nC c4.body 6))))).drop 0) uS41.E h=some (.normal,uS44.E,h')/\Meets uS44 h':=by
 obtain ⟨h1,r1,m1⟩:=jal (jaa 58).1 (jaa 58).2 uK45 m
 exact ⟨h1,(r1),m1⟩
set_option maxRecDepth 100000 in
theorem uT130 {h:H} (m:Meets jlp h) : ∃ h',runL (jac prog fuel 54) fuel (((flat c123.body)).drop 0) jlp.E h=some (.ret,jn4.E,h')/\Meets jn4 h':=by
 obtain ⟨h1,r1,m1⟩:=jal (jaa 54).1 (jaa 54).2 uK135 m
 obtain ⟨h2,r2,m2⟩:=jal (jaa 54).1 (jaa 54).2 uK147 m1
 obtain ⟨h3,r3,m3⟩:=jal (jaa 54).1 (jaa 54).2 uK164 m2
 exact ⟨h3,jai 3 r1 (jai 1 r2 ((r3))),m3⟩
set_option maxRecDepth 100000 in
theorem uB126 {h:H} (m:Meets jki h) : ∃ h',D (jac prog fuel 55) fuel (nC (blkB (nC (lpB (blkB (nC c66.body 2))) 0)) 2) jki.E h=some (.normal,jmP.E,h')/\Meets jmP h':=by
 obtain ⟨h1,r1,m1⟩:=ja7 uK128 (by kernel_rfl) (b:=h.nx) m
 obtain ⟨h2,r2,m2⟩:=uT130 (show Meets jlp _ from ⟨m1.nx,m1.has,m1.wf⟩)
 have hc:=jaA (d:=54) (f:=123) (fn:=c123) (args:=[(.ptr (some (1702,0))),(.i (0))]) (l:=[(.bool true),(.i (-1)),(.i (0))]) (by rfl) (by rfl) (by rfl) r2 m2 (by kernel_rfl)
 obtain ⟨h3,r3,m3⟩:=ja7 uK169 (by kernel_rfl) (b:=h.nx) (show Meets jmQ _ from ⟨m2.nx,jaQ m2.has (by kernel_rfl),m2.wf⟩)
 exact ⟨h3,D_of (c' := .region 0 (((rgO (nC (blkB (nC (lpB (blkB (nC c66.body 2))) 0)) 2))).take 2++jc6 (rgO (nC (blkB (nC (lpB (blkB (nC c66.body 2))) 0)) 2)) 2 :: ((rgO (nC (blkB (nC (lpB (blkB (nC c66.body 2))) 0)) 2))).drop 3) [0,1,2,8,10,11]) (by kernel_rfl) (jar (v:=(.tup [(.bool true),(.i (-1)),(.i (0))])) r1 (by kernel_rfl) (jaq (by kernel_rfl) (by kernel_rfl) hc) (by kernel_rfl) (by kernel_rfl) r3 (by kernel_rfl)),⟨m3.nx,m3.has,m3.wf⟩⟩
set_option maxRecDepth 100000 in
theorem uT120 {h:H} (m:Meets jd6 h) : ∃ h',runL (jac prog fuel 55) fuel (((flat (blkB (nC (lpB (blkB (nC c66.body 2))) 0)))).drop 0) jd6.E h=some (.normal,jiw.E,h')/\Meets jiw h':=by
 obtain ⟨h1,r1,m1⟩:=jal (jaa 55).1 (jaa 55).2 uK125 m
 obtain ⟨h2,r2,m2⟩:=uB126 m1
 obtain ⟨h3,r3,m3⟩:=jal (jaa 55).1 (jaa 55).2 uK171 m2
 exact ⟨h3,jai 2 r1 (jav (by kernel_rfl) r2 ((r3))),m3⟩
set_option maxRecDepth 100000 in
theorem uB119 {h:H} (m:Meets jd6 h) : ∃ h',D (jac prog fuel 55) fuel (nC (lpB (blkB (nC c66.body 2))) 0) jd6.E h=some (.normal,jiw.E,h')/\Meets jiw h':=by
 obtain ⟨h1,r1,m1⟩:=uT120 m
 exact ⟨h1,D_of (c' := .block 1 (blkB (nC (lpB (blkB (nC c66.body 2))) 0))) (by kernel_rfl) (jaK (jbV r1)),m1⟩
set_option maxRecDepth 100000 in
theorem uT118 {h:H} (m:Meets jd6 h) : ∃ h',runL (jac prog fuel 55) fuel (((flat (lpB (blkB (nC c66.body 2))))).drop 0) jd6.E h=some (.normal,jhf.E,h')/\Meets jhf h':=by
 obtain ⟨h1,r1,m1⟩:=uB119 m
 obtain ⟨h2,r2,m2⟩:=jal (jaa 55).1 (jaa 55).2 uK173 m1
 exact ⟨h2,jav (by kernel_rfl) r1 ((r2)),m2⟩
set_option maxRecDepth 100000 in
theorem uT174 {h:H} (m:Meets jhf h) : ∃ h',runL (jac prog fuel 55) fuel (((flat (lpB (blkB (nC c66.body 2))))).drop 0) jhf.E h=some (.ret,jiv.E,h')/\Meets jiv h':=by
 obtain ⟨h1,r1,m1⟩:=jal (jaa 55).1 (jaa 55).2 uK176 m
 exact ⟨h1,(r1),m1⟩
set_option maxRecDepth 100000 in
theorem uB117 {h:H} (m:Meets jd6 h) : ∃ h',D (jac prog fuel 55) fuel (nC c66.body 2) jd6.E h=some (.ret,jiv.E,h')/\Meets jiv h':=by
 obtain ⟨h1,r1,m1⟩:=uT118 (show Meets jd6 _ from ⟨m.nx,m.has,m.wf⟩)
 obtain ⟨h2,r2,m2⟩:=uT174 (show Meets jhf _ from ⟨m1.nx,m1.has,m1.wf⟩)
 exact ⟨h2,D_of (c' := .block 0 (.loop [0,1,2,8] (lpB (blkB (nC c66.body 2))))) (by kernel_rfl) (block_ret (jax r1 (loop_ret r2))),m2⟩
set_option maxRecDepth 100000 in
theorem uT114 {h:H} (m:Meets je4 h) : ∃ h',runL (jac prog fuel 55) fuel (((flat c66.body)).drop 0) je4.E h=some (.ret,jiv.E,h')/\Meets jiv h':=by
 obtain ⟨h1,r1,m1⟩:=jal (jaa 55).1 (jaa 55).2 uK116 m
 obtain ⟨h2,r2,m2⟩:=uB117 m1
 exact ⟨h2,jai 2 r1 ((jfQ (by kernel_rfl) r2 (by rfl))),m2⟩
set_option maxRecDepth 100000 in
theorem uB111 {h:H} (m:Meets jkj h) : ∃ h',D (jac prog fuel 56) fuel (nC c30.body 2) jkj.E h=some (.normal,jmN.E,h')/\Meets jmN h':=by
 obtain ⟨h1,r1,m1⟩:=ja7 uK113 (by kernel_rfl) (b:=h.nx) m
 obtain ⟨h2,r2,m2⟩:=uT114 (show Meets je4 _ from ⟨m1.nx,m1.has,m1.wf⟩)
 have hc:=jaA (d:=55) (f:=66) (fn:=c66) (args:=[(.ptr (some (1702,0))),(.i (0)),(.i (9))]) (l:=[(.i (1)),(.i (0))]) (by rfl) (by rfl) (by rfl) r2 m2 (by kernel_rfl)
 obtain ⟨h3,r3,m3⟩:=ja7 uK180 (by kernel_rfl) (b:=h.nx) (show Meets jmO _ from ⟨m2.nx,jaQ m2.has (by kernel_rfl),m2.wf⟩)
 exact ⟨h3,D_of (c' := .region 0 (((rgO (nC c30.body 2))).take 3++jc6 (rgO (nC c30.body 2)) 3 :: ((rgO (nC c30.body 2))).drop 4) [0,8,9]) (by kernel_rfl) (jar (v:=(.tup [(.i (1)),(.i (0))])) r1 (by kernel_rfl) (jaq (by kernel_rfl) (by kernel_rfl) hc) (by kernel_rfl) (by kernel_rfl) r3 (by kernel_rfl)),⟨m3.nx,m3.has,m3.wf⟩⟩
set_option maxRecDepth 100000 in
theorem uT108 {h:H} (m:Meets je4 h) : ∃ h',runL (jac prog fuel 56) fuel (((flat c30.body)).drop 0) je4.E h=some (.ret,jn3.E,h')/\Meets jn3 h':=by
 obtain ⟨h1,r1,m1⟩:=jal (jaa 56).1 (jaa 56).2 uK110 m
 obtain ⟨h2,r2,m2⟩:=uB111 m1
 obtain ⟨h3,r3,m3⟩:=jal (jaa 56).1 (jaa 56).2 uK185 m2
 exact ⟨h3,jai 2 r1 (jav (by kernel_rfl) r2 ((r3))),m3⟩
set_option maxRecDepth 100000 in
theorem uB104 {h:H} (m:Meets jkk h) : ∃ h',D (jac prog fuel 57) fuel (nC (blkB (nC (lpB (blkB (nC c6.body 22))) 2)) 1) jkk.E h=some (.normal,jmL.E,h')/\Meets jmL h':=by
 obtain ⟨h1,r1,m1⟩:=ja7 uK106 (by kernel_rfl) (b:=h.nx) m
 obtain ⟨h2,r2,m2⟩:=uT108 (show Meets je4 _ from ⟨m1.nx,m1.has,m1.wf⟩)
 have hc:=jaA (d:=56) (f:=30) (fn:=c30) (args:=[(.ptr (some (1702,0))),(.i (0)),(.i (9))]) (l:=[(.i (1)),(.i (0))]) (by rfl) (by rfl) (by rfl) r2 m2 (by kernel_rfl)
 obtain ⟨h3,r3,m3⟩:=ja7 uK189 (by kernel_rfl) (b:=h.nx) (show Meets jmM _ from ⟨m2.nx,jaQ m2.has (by kernel_rfl),m2.wf⟩)
 exact ⟨h3,D_of (c' := .region 0 (((rgO (nC (blkB (nC (lpB (blkB (nC c6.body 22))) 2)) 1))).take 4++jc6 (rgO (nC (blkB (nC (lpB (blkB (nC c6.body 22))) 2)) 1)) 4 :: ((rgO (nC (blkB (nC (lpB (blkB (nC c6.body 22))) 2)) 1))).drop 5) [3,6,9,10,11,18,23,24,119,120,121]) (by kernel_rfl) (jar (v:=(.tup [(.i (1)),(.i (0))])) r1 (by kernel_rfl) (jaq (by kernel_rfl) (by kernel_rfl) hc) (by kernel_rfl) (by kernel_rfl) r3 (by kernel_rfl)),⟨m3.nx,m3.has,m3.wf⟩⟩
set_option maxRecDepth 100000 in
theorem uT101 {h:H} (m:Meets uS98 h) : ∃ h',runL (jac prog fuel 57) fuel (((flat (blkB (nC (lpB (blkB (nC c6.body 22))) 2)))).drop 0) uS98.E h=some (.normal,jiu.E,h')/\Meets jiu h':=by
 obtain ⟨h1,r1,m1⟩:=jal (jaa 57).1 (jaa 57).2 uK103 m
 obtain ⟨h2,r2,m2⟩:=uB104 m1
 obtain ⟨h3,r3,m3⟩:=jal (jaa 57).1 (jaa 57).2 uK194 m2
 exact ⟨h3,jai 1 r1 (jav (by kernel_rfl) r2 ((r3))),m3⟩
set_option maxRecDepth 100000 in
theorem uB100 {h:H} (m:Meets uS98 h) : ∃ h',D (jac prog fuel 57) fuel (nC (lpB (blkB (nC c6.body 22))) 2) uS98.E h=some (.normal,jiu.E,h')/\Meets jiu h':=by
 obtain ⟨h1,r1,m1⟩:=uT101 m
 exact ⟨h1,D_of (c' := .block 5 (blkB (nC (lpB (blkB (nC c6.body 22))) 2))) (by kernel_rfl) (jaK (jbV r1)),m1⟩
set_option maxRecDepth 100000 in
theorem uT97 {h:H} (m:Meets uS94 h) : ∃ h',runL (jac prog fuel 57) fuel (((flat (lpB (blkB (nC c6.body 22))))).drop 0) uS94.E h=some (.normal,jhe.E,h')/\Meets jhe h':=by
 obtain ⟨h1,r1,m1⟩:=jal (jaa 57).1 (jaa 57).2 uK99 m
 obtain ⟨h2,r2,m2⟩:=uB100 m1
 obtain ⟨h3,r3,m3⟩:=jal (jaa 57).1 (jaa 57).2 uK196 m2
 exact ⟨h3,jai 2 r1 (jav (by kernel_rfl) r2 ((r3))),m3⟩
set_option maxRecDepth 100000 in
theorem uT197 {h:H} (m:Meets jhe h) : ∃ h',runL (jac prog fuel 57) fuel (((flat (lpB (blkB (nC c6.body 22))))).drop 0) jhe.E h=some (.normal,jhd.E,h')/\Meets jhd h':=by
 obtain ⟨h1,r1,m1⟩:=jal (jaa 57).1 (jaa 57).2 uK204 m
 exact ⟨h1,(r1),m1⟩
set_option maxRecDepth 100000 in
theorem uT205 {h:H} (m:Meets jhd h) : ∃ h',runL (jac prog fuel 57) fuel (((flat (lpB (blkB (nC c6.body 22))))).drop 0) jhd.E h=some ((.exit 4),jit.E,h')/\Meets jit h':=by
 obtain ⟨h1,r1,m1⟩:=jal (jaa 57).1 (jaa 57).2 uK207 m
 exact ⟨h1,(r1),m1⟩
set_option maxRecDepth 100000 in
theorem uB96 {h:H} (m:Meets uS94 h) : ∃ h',D (jac prog fuel 57) fuel (nC c6.body 22) uS94.E h=some (.normal,jit.E,h')/\Meets jit h':=by
 obtain ⟨h1,r1,m1⟩:=uT97 (show Meets uS94 _ from ⟨m.nx,m.has,m.wf⟩)
 obtain ⟨h2,r2,m2⟩:=uT197 (show Meets jhe _ from ⟨m1.nx,m1.has,m1.wf⟩)
 obtain ⟨h3,r3,m3⟩:=uT205 (show Meets jhd _ from ⟨m2.nx,m2.has,m2.wf⟩)
 exact ⟨h3,D_of (c' := .block 4 (.loop [3,6,9,10,11,18,119,120,121] (lpB (blkB (nC c6.body 22))))) (by kernel_rfl) (block_exit (jax r1 (jax r2 (loop_exit r3)))),m3⟩
set_option maxRecDepth 100000 in
theorem uT57 {h:H} (m:Meets uS56 h) : ∃ h',runL (jac prog fuel 57) fuel (((flat c6.body)).drop 0) uS56.E h=some (.ret,jn2.E,h')/\Meets jn2 h':=by
 obtain ⟨h1,r1,m1⟩:=jal (jaa 57).1 (jaa 57).2 uK95 m
 obtain ⟨h2,r2,m2⟩:=uB96 m1
 obtain ⟨h3,r3,m3⟩:=jal (jaa 57).1 (jaa 57).2 uK213 m2
 exact ⟨h3,jai 22 r1 (jav (by kernel_rfl) r2 ((r3))),m3⟩
set_option maxRecDepth 100000 in
theorem uB53 {h:H} (m:Meets uS51 h) : ∃ h',D (jac prog fuel 58) fuel (nC (blkB (nC (lpB (blkB (nC c4.body 6))) 2)) 1) uS51.E h=some (.normal,jmJ.E,h')/\Meets jmJ h':=by
 obtain ⟨h1,r1,m1⟩:=ja7 uK55 (by kernel_rfl) (b:=h.nx) m
 obtain ⟨h2,r2,m2⟩:=uT57 (show Meets uS56 _ from ⟨m1.nx,m1.has,m1.wf⟩)
 have hc:=jaA (d:=57) (f:=6) (fn:=c6) (args:=[(.agg [(.slice (some (5,0)) 1 (.fix 1)),(.slice (some (8,0)) 1 (.fix 1)),(.slice (some (11,0)) 1 (.fix 1)),(.slice (some (12,0)) 2 (.fix 2)),(.i (9))]),(.i (4)),(.i (1))]) (l:=[(.agg [(.slice (some (3021,0)) 8 (.grow 1)),(.slice (some (3023,0)) 6 (.grow 7)),(.slice (some (3173,0)) 7 (.grow 1))]),(.i (0))]) (by rfl) (by rfl) (by rfl) r2 m2 (by kernel_rfl)
 obtain ⟨h3,r3,m3⟩:=ja7 uK219 (by kernel_rfl) (b:=h.nx) (show Meets jmK _ from ⟨m2.nx,jaQ m2.has (by kernel_rfl),m2.wf⟩)
 exact ⟨h3,D_of (c' := .region 0 (((rgO (nC (blkB (nC (lpB (blkB (nC c4.body 6))) 2)) 1))).take 4++jc6 (rgO (nC (blkB (nC (lpB (blkB (nC c4.body 6))) 2)) 1)) 4 :: ((rgO (nC (blkB (nC (lpB (blkB (nC c4.body 6))) 2)) 1))).drop 5) [1,2,4,6,7,9,10,22]) (by kernel_rfl) (jar (v:=(.tup [(.agg [(.slice (some (3021,0)) 8 (.grow 1)),(.slice (some (3023,0)) 6 (.grow 7)),(.slice (some (3173,0)) 7 (.grow 1))]),(.i (0))])) r1 (by kernel_rfl) (jaq (by kernel_rfl) (by kernel_rfl) hc) (by kernel_rfl) (by kernel_rfl) r3 (by kernel_rfl)),⟨m3.nx,m3.has,m3.wf⟩⟩
set_option maxRecDepth 100000 in
theorem uT50 {h:H} (m:Meets uS47 h) : ∃ h',runL (jac prog fuel 58) fuel (((flat (blkB (nC (lpB (blkB (nC c4.body 6))) 2)))).drop 0) uS47.E h=some (.normal,jis.E,h')/\Meets jis h':=by
 obtain ⟨h1,r1,m1⟩:=jal (jaa 58).1 (jaa 58).2 uK52 m
 obtain ⟨h2,r2,m2⟩:=uB53 m1
 obtain ⟨h3,r3,m3⟩:=jal (jaa 58).1 (jaa 58).2 uK221 m2
 exact ⟨h3,jai 1 r1 (jav (by kernel_rfl) r2 ((r3))),m3⟩
set_option maxRecDepth 100000 in
theorem uB49 {h:H} (m:Meets uS47 h) : ∃ h',D (jac prog fuel 58) fuel (nC (lpB (blkB (nC c4.body 6))) 2) uS47.E h=some (.normal,jis.E,h')/\Meets jis h':=by
 obtain ⟨h1,r1,m1⟩:=uT50 m
 exact ⟨h1,D_of (c' := .block 1 (blkB (nC (lpB (blkB (nC c4.body 6))) 2))) (by kernel_rfl) (jaK (jbV r1)),m1⟩
set_option maxRecDepth 100000 in
theorem uT46 {h:H} (m:Meets uS44 h) : ∃ h',runL (jac prog fuel 58) fuel (((flat (lpB (blkB (nC c4.body 6))))).drop 0) uS44.E h=some (.normal,jhc.E,h')/\Meets jhc h':=by
 obtain ⟨h1,r1,m1⟩:=jal (jaa 58).1 (jaa 58).2 uK48 m
 obtain ⟨h2,r2,m2⟩:=uB49 m1
 obtain ⟨h3,r3,m3⟩:=jal (jaa 58).1 (jaa 58).2 uK223 m2
 exact ⟨h3,jai 2 r1 (jav (by kernel_rfl) r2 ((r3))),m3⟩
set_option maxRecDepth 100000 in
theorem uT224 {h:H} (m:Meets jhc h) : ∃ h',runL (jac prog fuel 58) fuel (((flat (lpB (blkB (nC c4.body 6))))).drop 0) jhc.E h=some ((.exit 0),jir.E,h')/\Meets jir h':=by
 obtain ⟨h1,r1,m1⟩:=jal (jaa 58).1 (jaa 58).2 uK226 m
 exact ⟨h1,(r1),m1⟩
set_option maxRecDepth 100000 in
theorem uB32 {h:H} (m:Meets uS30 h) : ∃ h',D (jac prog fuel 58) fuel (nC c4.body 6) uS30.E h=some (.normal,jir.E,h')/\Meets jir h':=by
 obtain ⟨h1,r1,m1⟩:=uT33 (show Meets uS30 _ from ⟨m.nx,m.has,m.wf⟩)
 obtain ⟨h2,r2,m2⟩:=uT38 (show Meets uS36 _ from ⟨m1.nx,m1.has,m1.wf⟩)
 obtain ⟨h3,r3,m3⟩:=uT43 (show Meets uS41 _ from ⟨m2.nx,m2.has,m2.wf⟩)
 obtain ⟨h4,r4,m4⟩:=uT46 (show Meets uS44 _ from ⟨m3.nx,m3.has,m3.wf⟩)
 obtain ⟨h5,r5,m5⟩:=uT224 (show Meets jhc _ from ⟨m4.nx,m4.has,m4.wf⟩)
 exact ⟨h5,D_of (c' := .block 0 (.loop [1,2,4,6,7,22] (lpB (blkB (nC c4.body 6))))) (by kernel_rfl) (block_exit (jax r1 (jax r2 (jax r3 (jax r4 (loop_exit r5)))))),m5⟩
set_option maxRecDepth 100000 in
theorem uT22 {h:H} (m:Meets uS21 h) : ∃ h',runL (jac prog fuel 58) fuel (((flat c4.body)).drop 0) uS21.E h=some (.ret,jn1.E,h')/\Meets jn1 h':=by
 obtain ⟨h1,r1,m1⟩:=jal (jaa 58).1 (jaa 58).2 uK31 m
 obtain ⟨h2,r2,m2⟩:=uB32 m1
 obtain ⟨h3,r3,m3⟩:=jal (jaa 58).1 (jaa 58).2 uK229 m2
 exact ⟨h3,jai 6 r1 (jav (by kernel_rfl) r2 ((r3))),m3⟩
set_option maxRecDepth 100000 in
theorem uB9 {h:H} (m:Meets uS7 h) : ∃ h',D (jac prog fuel 59) fuel (nC c3.body 1) uS7.E h=some (.normal,jmH.E,h')/\Meets jmH h':=by
 obtain ⟨h1,r1,m1⟩:=ja7 uK20 (by kernel_rfl) (b:=h.nx) m
 obtain ⟨h2,r2,m2⟩:=uT22 (show Meets uS21 _ from ⟨m1.nx,m1.has,m1.wf⟩)
 have hc:=jaA (d:=58) (f:=4) (fn:=c4) (args:=[(.agg [(.slice (some (5,0)) 1 (.fix 1)),(.slice (some (8,0)) 1 (.fix 1)),(.slice (some (11,0)) 1 (.fix 1)),(.slice (some (12,0)) 2 (.fix 2)),(.i (9))]),(.i (1))]) (l:=[(.agg [(.i (-1)),(.i (-1)),(.i (0)),(.i (0))]),(.i (0))]) (by rfl) (by rfl) (by rfl) r2 m2 (by kernel_rfl)
 obtain ⟨h3,r3,m3⟩:=ja7 uK234 (by kernel_rfl) (b:=h.nx) (show Meets jmI _ from ⟨m2.nx,jaQ m2.has (by kernel_rfl),m2.wf⟩)
 exact ⟨h3,D_of (c' := .region 0 (((rgO (nC c3.body 1))).take 1++jc6 (rgO (nC c3.body 1)) 1 :: ((rgO (nC c3.body 1))).drop 2) [1,2]) (by kernel_rfl) (jar (v:=(.tup [(.agg [(.i (-1)),(.i (-1)),(.i (0)),(.i (0))]),(.i (0))])) r1 (by kernel_rfl) (jaq (by kernel_rfl) (by kernel_rfl) hc) (by kernel_rfl) (by kernel_rfl) r3 (by kernel_rfl)),⟨m3.nx,m3.has,m3.wf⟩⟩
set_option maxRecDepth 100000 in
theorem uT339 {h:H} (m:Meets jll h) : ∃ h',runL (jac prog fuel 53) fuel (((flat c123.body)).drop 0) jll.E h=some (.ret,jny.E,h')/\Meets jny h':=by
 obtain ⟨h1,r1,m1⟩:=jal (jaa 53).1 (jaa 53).2 uK343 m
 obtain ⟨h2,r2,m2⟩:=jal (jaa 53).1 (jaa 53).2 uK350 m1
 obtain ⟨h3,r3,m3⟩:=jal (jaa 53).1 (jaa 53).2 uK361 m2
 exact ⟨h3,jai 3 r1 (jai 1 r2 ((r3))),m3⟩
set_option maxRecDepth 100000 in
theorem uB335 {h:H} (m:Meets jkc h) : ∃ h',D (jac prog fuel 54) fuel (nC (blkB (nC (lpB (blkB (nC c66.body 2))) 0)) 2) jkc.E h=some (.normal,jmF.E,h')/\Meets jmF h':=by
 obtain ⟨h1,r1,m1⟩:=ja7 uK337 (by kernel_rfl) (b:=h.nx) m
 obtain ⟨h2,r2,m2⟩:=uT339 (show Meets jll _ from ⟨m1.nx,m1.has,m1.wf⟩)
 have hc:=jaA (d:=53) (f:=123) (fn:=c123) (args:=[(.ptr (some (4489,0))),(.i (0))]) (l:=[(.bool true),(.i (-1)),(.i (0))]) (by rfl) (by rfl) (by rfl) r2 m2 (by kernel_rfl)
 obtain ⟨h3,r3,m3⟩:=ja7 uK366 (by kernel_rfl) (b:=h.nx) (show Meets jmG _ from ⟨m2.nx,jaQ m2.has (by kernel_rfl),m2.wf⟩)
 exact ⟨h3,D_of (c' := .region 0 (((rgO (nC (blkB (nC (lpB (blkB (nC c66.body 2))) 0)) 2))).take 2++jc6 (rgO (nC (blkB (nC (lpB (blkB (nC c66.body 2))) 0)) 2)) 2 :: ((rgO (nC (blkB (nC (lpB (blkB (nC c66.body 2))) 0)) 2))).drop 3) [0,1,2,8,10,11]) (by kernel_rfl) (jar (v:=(.tup [(.bool true),(.i (-1)),(.i (0))])) r1 (by kernel_rfl) (jaq (by kernel_rfl) (by kernel_rfl) hc) (by kernel_rfl) (by kernel_rfl) r3 (by kernel_rfl)),⟨m3.nx,m3.has,m3.wf⟩⟩
set_option maxRecDepth 100000 in
theorem uT330 {h:H} (m:Meets jd5 h) : ∃ h',runL (jac prog fuel 54) fuel (((flat (blkB (nC (lpB (blkB (nC c66.body 2))) 0)))).drop 0) jd5.E h=some (.normal,jio.E,h')/\Meets jio h':=by
 obtain ⟨h1,r1,m1⟩:=jal (jaa 54).1 (jaa 54).2 uK334 m
 obtain ⟨h2,r2,m2⟩:=uB335 m1
 obtain ⟨h3,r3,m3⟩:=jal (jaa 54).1 (jaa 54).2 uK368 m2
 exact ⟨h3,jai 2 r1 (jav (by kernel_rfl) r2 ((r3))),m3⟩
set_option maxRecDepth 100000 in
theorem uB329 {h:H} (m:Meets jd5 h) : ∃ h',D (jac prog fuel 54) fuel (nC (lpB (blkB (nC c66.body 2))) 0) jd5.E h=some (.normal,jio.E,h')/\Meets jio h':=by
 obtain ⟨h1,r1,m1⟩:=uT330 m
 exact ⟨h1,D_of (c' := .block 1 (blkB (nC (lpB (blkB (nC c66.body 2))) 0))) (by kernel_rfl) (jaK (jbV r1)),m1⟩
set_option maxRecDepth 100000 in
theorem uT328 {h:H} (m:Meets jd5 h) : ∃ h',runL (jac prog fuel 54) fuel (((flat (lpB (blkB (nC c66.body 2))))).drop 0) jd5.E h=some (.normal,jgZ.E,h')/\Meets jgZ h':=by
 obtain ⟨h1,r1,m1⟩:=uB329 m
 obtain ⟨h2,r2,m2⟩:=jal (jaa 54).1 (jaa 54).2 uK370 m1
 exact ⟨h2,jav (by kernel_rfl) r1 ((r2)),m2⟩
set_option maxRecDepth 100000 in
theorem uT371 {h:H} (m:Meets jgZ h) : ∃ h',runL (jac prog fuel 54) fuel (((flat (lpB (blkB (nC c66.body 2))))).drop 0) jgZ.E h=some (.ret,jin.E,h')/\Meets jin h':=by
 obtain ⟨h1,r1,m1⟩:=jal (jaa 54).1 (jaa 54).2 uK373 m
 exact ⟨h1,(r1),m1⟩
set_option maxRecDepth 100000 in
theorem uB327 {h:H} (m:Meets jd5 h) : ∃ h',D (jac prog fuel 54) fuel (nC c66.body 2) jd5.E h=some (.ret,jin.E,h')/\Meets jin h':=by
 obtain ⟨h1,r1,m1⟩:=uT328 (show Meets jd5 _ from ⟨m.nx,m.has,m.wf⟩)
 obtain ⟨h2,r2,m2⟩:=uT371 (show Meets jgZ _ from ⟨m1.nx,m1.has,m1.wf⟩)
 exact ⟨h2,D_of (c' := .block 0 (.loop [0,1,2,8] (lpB (blkB (nC c66.body 2))))) (by kernel_rfl) (block_ret (jax r1 (loop_ret r2))),m2⟩
set_option maxRecDepth 100000 in
theorem uT324 {h:H} (m:Meets je3 h) : ∃ h',runL (jac prog fuel 54) fuel (((flat c66.body)).drop 0) je3.E h=some (.ret,jin.E,h')/\Meets jin h':=by
 obtain ⟨h1,r1,m1⟩:=jal (jaa 54).1 (jaa 54).2 uK326 m
 obtain ⟨h2,r2,m2⟩:=uB327 m1
 exact ⟨h2,jai 2 r1 ((jfQ (by kernel_rfl) r2 (by rfl))),m2⟩
set_option maxRecDepth 100000 in
theorem uB321 {h:H} (m:Meets jkd h) : ∃ h',D (jac prog fuel 55) fuel (nC c30.body 2) jkd.E h=some (.normal,jmD.E,h')/\Meets jmD h':=by
 obtain ⟨h1,r1,m1⟩:=ja7 uK323 (by kernel_rfl) (b:=h.nx) m
 obtain ⟨h2,r2,m2⟩:=uT324 (show Meets je3 _ from ⟨m1.nx,m1.has,m1.wf⟩)
 have hc:=jaA (d:=54) (f:=66) (fn:=c66) (args:=[(.ptr (some (4489,0))),(.i (0)),(.i (9))]) (l:=[(.i (1)),(.i (0))]) (by rfl) (by rfl) (by rfl) r2 m2 (by kernel_rfl)
 obtain ⟨h3,r3,m3⟩:=ja7 uK377 (by kernel_rfl) (b:=h.nx) (show Meets jmE _ from ⟨m2.nx,jaQ m2.has (by kernel_rfl),m2.wf⟩)
 exact ⟨h3,D_of (c' := .region 0 (((rgO (nC c30.body 2))).take 3++jc6 (rgO (nC c30.body 2)) 3 :: ((rgO (nC c30.body 2))).drop 4) [0,8,9]) (by kernel_rfl) (jar (v:=(.tup [(.i (1)),(.i (0))])) r1 (by kernel_rfl) (jaq (by kernel_rfl) (by kernel_rfl) hc) (by kernel_rfl) (by kernel_rfl) r3 (by kernel_rfl)),⟨m3.nx,m3.has,m3.wf⟩⟩
set_option maxRecDepth 100000 in
theorem uT318 {h:H} (m:Meets je3 h) : ∃ h',runL (jac prog fuel 55) fuel (((flat c30.body)).drop 0) je3.E h=some (.ret,jnx.E,h')/\Meets jnx h':=by
 obtain ⟨h1,r1,m1⟩:=jal (jaa 55).1 (jaa 55).2 uK320 m
 obtain ⟨h2,r2,m2⟩:=uB321 m1
 obtain ⟨h3,r3,m3⟩:=jal (jaa 55).1 (jaa 55).2 uK382 m2
 exact ⟨h3,jai 2 r1 (jav (by kernel_rfl) r2 ((r3))),m3⟩
set_option maxRecDepth 100000 in
theorem uB314 {h:H} (m:Meets jke h) : ∃ h',D (jac prog fuel 56) fuel (nC (blkB (nC (lpB (blkB (nC c6.body 22))) 2)) 1) jke.E h=some (.normal,jmB.E,h')/\Meets jmB h':=by
 obtain ⟨h1,r1,m1⟩:=ja7 uK316 (by kernel_rfl) (b:=h.nx) m
 obtain ⟨h2,r2,m2⟩:=uT318 (show Meets je3 _ from ⟨m1.nx,m1.has,m1.wf⟩)
 have hc:=jaA (d:=55) (f:=30) (fn:=c30) (args:=[(.ptr (some (4489,0))),(.i (0)),(.i (9))]) (l:=[(.i (1)),(.i (0))]) (by rfl) (by rfl) (by rfl) r2 m2 (by kernel_rfl)
 obtain ⟨h3,r3,m3⟩:=ja7 uK386 (by kernel_rfl) (b:=h.nx) (show Meets jmC _ from ⟨m2.nx,jaQ m2.has (by kernel_rfl),m2.wf⟩)
 exact ⟨h3,D_of (c' := .region 0 (((rgO (nC (blkB (nC (lpB (blkB (nC c6.body 22))) 2)) 1))).take 4++jc6 (rgO (nC (blkB (nC (lpB (blkB (nC c6.body 22))) 2)) 1)) 4 :: ((rgO (nC (blkB (nC (lpB (blkB (nC c6.body 22))) 2)) 1))).drop 5) [3,6,9,10,11,18,23,24,119,120,121]) (by kernel_rfl) (jar (v:=(.tup [(.i (1)),(.i (0))])) r1 (by kernel_rfl) (jaq (by kernel_rfl) (by kernel_rfl) hc) (by kernel_rfl) (by kernel_rfl) r3 (by kernel_rfl)),⟨m3.nx,m3.has,m3.wf⟩⟩
set_option maxRecDepth 100000 in
theorem uT311 {h:H} (m:Meets jip h) : ∃ h',runL (jac prog fuel 56) fuel (((flat (blkB (nC (lpB (blkB (nC c6.body 22))) 2)))).drop 0) jip.E h=some (.normal,jim.E,h')/\Meets jim h':=by
 obtain ⟨h1,r1,m1⟩:=jal (jaa 56).1 (jaa 56).2 uK313 m
 obtain ⟨h2,r2,m2⟩:=uB314 m1
 obtain ⟨h3,r3,m3⟩:=jal (jaa 56).1 (jaa 56).2 uK390 m2
 exact ⟨h3,jai 1 r1 (jav (by kernel_rfl) r2 ((r3))),m3⟩
set_option maxRecDepth 100000 in
theorem uB310 {h:H} (m:Meets jip h) : ∃ h',D (jac prog fuel 56) fuel (nC (lpB (blkB (nC c6.body 22))) 2) jip.E h=some (.normal,jim.E,h')/\Meets jim h':=by
 obtain ⟨h1,r1,m1⟩:=uT311 m
 exact ⟨h1,D_of (c' := .block 5 (blkB (nC (lpB (blkB (nC c6.body 22))) 2))) (by kernel_rfl) (jaK (jbV r1)),m1⟩
set_option maxRecDepth 100000 in
theorem uT307 {h:H} (m:Meets jha h) : ∃ h',runL (jac prog fuel 56) fuel (((flat (lpB (blkB (nC c6.body 22))))).drop 0) jha.E h=some (.normal,jgY.E,h')/\Meets jgY h':=by
 obtain ⟨h1,r1,m1⟩:=jal (jaa 56).1 (jaa 56).2 uK309 m
 obtain ⟨h2,r2,m2⟩:=uB310 m1
 obtain ⟨h3,r3,m3⟩:=jal (jaa 56).1 (jaa 56).2 uK392 m2
 exact ⟨h3,jai 2 r1 (jav (by kernel_rfl) r2 ((r3))),m3⟩
set_option maxRecDepth 100000 in
theorem uT393 {h:H} (m:Meets jgY h) : ∃ h',runL (jac prog fuel 56) fuel (((flat (lpB (blkB (nC c6.body 22))))).drop 0) jgY.E h=some (.normal,jgX.E,h')/\Meets jgX h':=by
 obtain ⟨h1,r1,m1⟩:=jal (jaa 56).1 (jaa 56).2 uK399 m
 exact ⟨h1,(r1),m1⟩
set_option maxRecDepth 100000 in
theorem uT400 {h:H} (m:Meets jgX h) : ∃ h',runL (jac prog fuel 56) fuel (((flat (lpB (blkB (nC c6.body 22))))).drop 0) jgX.E h=some ((.exit 4),jil.E,h')/\Meets jil h':=by
 obtain ⟨h1,r1,m1⟩:=jal (jaa 56).1 (jaa 56).2 uK402 m
 exact ⟨h1,(r1),m1⟩
set_option maxRecDepth 100000 in
theorem uB306 {h:H} (m:Meets jha h) : ∃ h',D (jac prog fuel 56) fuel (nC c6.body 22) jha.E h=some (.normal,jil.E,h')/\Meets jil h':=by
 obtain ⟨h1,r1,m1⟩:=uT307 (show Meets jha _ from ⟨m.nx,m.has,m.wf⟩)
 obtain ⟨h2,r2,m2⟩:=uT393 (show Meets jgY _ from ⟨m1.nx,m1.has,m1.wf⟩)
 obtain ⟨h3,r3,m3⟩:=uT400 (show Meets jgX _ from ⟨m2.nx,m2.has,m2.wf⟩)
 exact ⟨h3,D_of (c' := .block 4 (.loop [3,6,9,10,11,18,119,120,121] (lpB (blkB (nC c6.body 22))))) (by kernel_rfl) (block_exit (jax r1 (jax r2 (loop_exit r3)))),m3⟩
set_option maxRecDepth 100000 in
theorem uT277 {h:H} (m:Meets jlm h) : ∃ h',runL (jac prog fuel 56) fuel (((flat c6.body)).drop 0) jlm.E h=some (.ret,jnw.E,h')/\Meets jnw h':=by
 obtain ⟨h1,r1,m1⟩:=jal (jaa 56).1 (jaa 56).2 uK305 m
 obtain ⟨h2,r2,m2⟩:=uB306 m1
 obtain ⟨h3,r3,m3⟩:=jal (jaa 56).1 (jaa 56).2 uK407 m2
 exact ⟨h3,jai 22 r1 (jav (by kernel_rfl) r2 ((r3))),m3⟩
set_option maxRecDepth 100000 in
theorem uB273 {h:H} (m:Meets jkf h) : ∃ h',D (jac prog fuel 57) fuel (nC (blkB (nC (lpB (blkB (nC c4.body 6))) 2)) 1) jkf.E h=some (.normal,jm9.E,h')/\Meets jm9 h':=by
 obtain ⟨h1,r1,m1⟩:=ja7 uK275 (by kernel_rfl) (b:=h.nx) m
 obtain ⟨h2,r2,m2⟩:=uT277 (show Meets jlm _ from ⟨m1.nx,m1.has,m1.wf⟩)
 have hc:=jaA (d:=56) (f:=6) (fn:=c6) (args:=[(.agg [(.slice (some (3893,0)) 1 (.fix 1)),(.slice (some (3896,0)) 1 (.fix 1)),(.slice (some (3899,0)) 1 (.fix 1)),(.slice (some (3900,0)) 2 (.fix 2)),(.i (9))]),(.i (1)),(.i (1))]) (l:=[(.agg [(.slice (some (5888,0)) 8 (.grow 1)),(.slice (some (5890,0)) 6 (.grow 7)),(.slice (some (6040,0)) 7 (.grow 1))]),(.i (0))]) (by rfl) (by rfl) (by rfl) r2 m2 (by kernel_rfl)
 obtain ⟨h3,r3,m3⟩:=ja7 uK413 (by kernel_rfl) (b:=h.nx) (show Meets jmA _ from ⟨m2.nx,jaQ m2.has (by kernel_rfl),m2.wf⟩)
 exact ⟨h3,D_of (c' := .region 0 (((rgO (nC (blkB (nC (lpB (blkB (nC c4.body 6))) 2)) 1))).take 4++jc6 (rgO (nC (blkB (nC (lpB (blkB (nC c4.body 6))) 2)) 1)) 4 :: ((rgO (nC (blkB (nC (lpB (blkB (nC c4.body 6))) 2)) 1))).drop 5) [1,2,4,6,7,9,10,22]) (by kernel_rfl) (jar (v:=(.tup [(.agg [(.slice (some (5888,0)) 8 (.grow 1)),(.slice (some (5890,0)) 6 (.grow 7)),(.slice (some (6040,0)) 7 (.grow 1))]),(.i (0))])) r1 (by kernel_rfl) (jaq (by kernel_rfl) (by kernel_rfl) hc) (by kernel_rfl) (by kernel_rfl) r3 (by kernel_rfl)),⟨m3.nx,m3.has,m3.wf⟩⟩
set_option maxRecDepth 100000 in
theorem uT270 {h:H} (m:Meets jiq h) : ∃ h',runL (jac prog fuel 57) fuel (((flat (blkB (nC (lpB (blkB (nC c4.body 6))) 2)))).drop 0) jiq.E h=some (.normal,jik.E,h')/\Meets jik h':=by
 obtain ⟨h1,r1,m1⟩:=jal (jaa 57).1 (jaa 57).2 uK272 m
 obtain ⟨h2,r2,m2⟩:=uB273 m1
 obtain ⟨h3,r3,m3⟩:=jal (jaa 57).1 (jaa 57).2 uK416 m2
 exact ⟨h3,jai 1 r1 (jav (by kernel_rfl) r2 ((r3))),m3⟩
set_option maxRecDepth 100000 in
theorem uB269 {h:H} (m:Meets jiq h) : ∃ h',D (jac prog fuel 57) fuel (nC (lpB (blkB (nC c4.body 6))) 2) jiq.E h=some (.normal,jik.E,h')/\Meets jik h':=by
 obtain ⟨h1,r1,m1⟩:=uT270 m
 exact ⟨h1,D_of (c' := .block 1 (blkB (nC (lpB (blkB (nC c4.body 6))) 2))) (by kernel_rfl) (jaK (jbV r1)),m1⟩
set_option maxRecDepth 100000 in
theorem uT266 {h:H} (m:Meets jhb h) : ∃ h',runL (jac prog fuel 57) fuel (((flat (lpB (blkB (nC c4.body 6))))).drop 0) jhb.E h=some (.normal,jgW.E,h')/\Meets jgW h':=by
 obtain ⟨h1,r1,m1⟩:=jal (jaa 57).1 (jaa 57).2 uK268 m
 obtain ⟨h2,r2,m2⟩:=uB269 m1
 obtain ⟨h3,r3,m3⟩:=jal (jaa 57).1 (jaa 57).2 uK418 m2
 exact ⟨h3,jai 2 r1 (jav (by kernel_rfl) r2 ((r3))),m3⟩
set_option maxRecDepth 100000 in
theorem uT419 {h:H} (m:Meets jgW h) : ∃ h',runL (jac prog fuel 57) fuel (((flat (lpB (blkB (nC c4.body 6))))).drop 0) jgW.E h=some (.normal,jgV.E,h')/\Meets jgV h':=by
 obtain ⟨h1,r1,m1⟩:=jal (jaa 57).1 (jaa 57).2 uK422 m
 exact ⟨h1,(r1),m1⟩
set_option maxRecDepth 100000 in
theorem uT423 {h:H} (m:Meets jgV h) : ∃ h',runL (jac prog fuel 57) fuel (((flat (lpB (blkB (nC c4.body 6))))).drop 0) jgV.E h=some (.normal,jgU.E,h')/\Meets jgU h':=by
 obtain ⟨h1,r1,m1⟩:=jal (jaa 57).1 (jaa 57).2 uK427 m
 exact ⟨h1,(r1),m1⟩
set_option maxRecDepth 100000 in
theorem uT502 {h:H} (m:Meets jlj h) : ∃ h',runL (jac prog fuel 53) fuel (((flat c123.body)).drop 0) jlj.E h=some (.ret,jnt.E,h')/\Meets jnt h':=by
 obtain ⟨h1,r1,m1⟩:=jal (jaa 53).1 (jaa 53).2 uK506 m
 obtain ⟨h2,r2,m2⟩:=jal (jaa 53).1 (jaa 53).2 uK516 m1
 obtain ⟨h3,r3,m3⟩:=jal (jaa 53).1 (jaa 53).2 uK527 m2
 exact ⟨h3,jai 3 r1 (jai 1 r2 ((r3))),m3⟩
set_option maxRecDepth 100000 in
theorem uB498 {h:H} (m:Meets jjY h) : ∃ h',D (jac prog fuel 54) fuel (nC (blkB (nC (lpB (blkB (nC c66.body 2))) 0)) 2) jjY.E h=some (.normal,jm7.E,h')/\Meets jm7 h':=by
 obtain ⟨h1,r1,m1⟩:=ja7 uK500 (by kernel_rfl) (b:=h.nx) m
 obtain ⟨h2,r2,m2⟩:=uT502 (show Meets jlj _ from ⟨m1.nx,m1.has,m1.wf⟩)
 have hc:=jaA (d:=53) (f:=123) (fn:=c123) (args:=[(.ptr (some (7405,0))),(.i (0))]) (l:=[(.bool true),(.i (-1)),(.i (0))]) (by rfl) (by rfl) (by rfl) r2 m2 (by kernel_rfl)
 obtain ⟨h3,r3,m3⟩:=ja7 uK532 (by kernel_rfl) (b:=h.nx) (show Meets jm8 _ from ⟨m2.nx,jaQ m2.has (by kernel_rfl),m2.wf⟩)
 exact ⟨h3,D_of (c' := .region 0 (((rgO (nC (blkB (nC (lpB (blkB (nC c66.body 2))) 0)) 2))).take 2++jc6 (rgO (nC (blkB (nC (lpB (blkB (nC c66.body 2))) 0)) 2)) 2 :: ((rgO (nC (blkB (nC (lpB (blkB (nC c66.body 2))) 0)) 2))).drop 3) [0,1,2,8,10,11]) (by kernel_rfl) (jar (v:=(.tup [(.bool true),(.i (-1)),(.i (0))])) r1 (by kernel_rfl) (jaq (by kernel_rfl) (by kernel_rfl) hc) (by kernel_rfl) (by kernel_rfl) r3 (by kernel_rfl)),⟨m3.nx,m3.has,m3.wf⟩⟩
set_option maxRecDepth 100000 in
theorem uT493 {h:H} (m:Meets jd4 h) : ∃ h',runL (jac prog fuel 54) fuel (((flat (blkB (nC (lpB (blkB (nC c66.body 2))) 0)))).drop 0) jd4.E h=some (.normal,jih.E,h')/\Meets jih h':=by
 obtain ⟨h1,r1,m1⟩:=jal (jaa 54).1 (jaa 54).2 uK497 m
 obtain ⟨h2,r2,m2⟩:=uB498 m1
 obtain ⟨h3,r3,m3⟩:=jal (jaa 54).1 (jaa 54).2 uK534 m2
 exact ⟨h3,jai 2 r1 (jav (by kernel_rfl) r2 ((r3))),m3⟩
set_option maxRecDepth 100000 in
theorem uB492 {h:H} (m:Meets jd4 h) : ∃ h',D (jac prog fuel 54) fuel (nC (lpB (blkB (nC c66.body 2))) 0) jd4.E h=some (.normal,jih.E,h')/\Meets jih h':=by
 obtain ⟨h1,r1,m1⟩:=uT493 m
 exact ⟨h1,D_of (c' := .block 1 (blkB (nC (lpB (blkB (nC c66.body 2))) 0))) (by kernel_rfl) (jaK (jbV r1)),m1⟩
set_option maxRecDepth 100000 in
theorem uT491 {h:H} (m:Meets jd4 h) : ∃ h',runL (jac prog fuel 54) fuel (((flat (lpB (blkB (nC c66.body 2))))).drop 0) jd4.E h=some (.normal,jgS.E,h')/\Meets jgS h':=by
 obtain ⟨h1,r1,m1⟩:=uB492 m
 obtain ⟨h2,r2,m2⟩:=jal (jaa 54).1 (jaa 54).2 uK536 m1
 exact ⟨h2,jav (by kernel_rfl) r1 ((r2)),m2⟩
set_option maxRecDepth 100000 in
theorem uT537 {h:H} (m:Meets jgS h) : ∃ h',runL (jac prog fuel 54) fuel (((flat (lpB (blkB (nC c66.body 2))))).drop 0) jgS.E h=some (.ret,jig.E,h')/\Meets jig h':=by
 obtain ⟨h1,r1,m1⟩:=jal (jaa 54).1 (jaa 54).2 uK539 m
 exact ⟨h1,(r1),m1⟩
set_option maxRecDepth 100000 in
theorem uB490 {h:H} (m:Meets jd4 h) : ∃ h',D (jac prog fuel 54) fuel (nC c66.body 2) jd4.E h=some (.ret,jig.E,h')/\Meets jig h':=by
 obtain ⟨h1,r1,m1⟩:=uT491 (show Meets jd4 _ from ⟨m.nx,m.has,m.wf⟩)
 obtain ⟨h2,r2,m2⟩:=uT537 (show Meets jgS _ from ⟨m1.nx,m1.has,m1.wf⟩)
 exact ⟨h2,D_of (c' := .block 0 (.loop [0,1,2,8] (lpB (blkB (nC c66.body 2))))) (by kernel_rfl) (block_ret (jax r1 (loop_ret r2))),m2⟩
set_option maxRecDepth 100000 in
theorem uT487 {h:H} (m:Meets je2 h) : ∃ h',runL (jac prog fuel 54) fuel (((flat c66.body)).drop 0) je2.E h=some (.ret,jig.E,h')/\Meets jig h':=by
 obtain ⟨h1,r1,m1⟩:=jal (jaa 54).1 (jaa 54).2 uK489 m
 obtain ⟨h2,r2,m2⟩:=uB490 m1
 exact ⟨h2,jai 2 r1 ((jfQ (by kernel_rfl) r2 (by rfl))),m2⟩
set_option maxRecDepth 100000 in
theorem uB484 {h:H} (m:Meets jjZ h) : ∃ h',D (jac prog fuel 55) fuel (nC c30.body 2) jjZ.E h=some (.normal,jm5.E,h')/\Meets jm5 h':=by
 obtain ⟨h1,r1,m1⟩:=ja7 uK486 (by kernel_rfl) (b:=h.nx) m
 obtain ⟨h2,r2,m2⟩:=uT487 (show Meets je2 _ from ⟨m1.nx,m1.has,m1.wf⟩)
 have hc:=jaA (d:=54) (f:=66) (fn:=c66) (args:=[(.ptr (some (7405,0))),(.i (0)),(.i (9))]) (l:=[(.i (1)),(.i (0))]) (by rfl) (by rfl) (by rfl) r2 m2 (by kernel_rfl)
 obtain ⟨h3,r3,m3⟩:=ja7 uK543 (by kernel_rfl) (b:=h.nx) (show Meets jm6 _ from ⟨m2.nx,jaQ m2.has (by kernel_rfl),m2.wf⟩)
 exact ⟨h3,D_of (c' := .region 0 (((rgO (nC c30.body 2))).take 3++jc6 (rgO (nC c30.body 2)) 3 :: ((rgO (nC c30.body 2))).drop 4) [0,8,9]) (by kernel_rfl) (jar (v:=(.tup [(.i (1)),(.i (0))])) r1 (by kernel_rfl) (jaq (by kernel_rfl) (by kernel_rfl) hc) (by kernel_rfl) (by kernel_rfl) r3 (by kernel_rfl)),⟨m3.nx,m3.has,m3.wf⟩⟩
set_option maxRecDepth 100000 in
theorem uT481 {h:H} (m:Meets je2 h) : ∃ h',runL (jac prog fuel 55) fuel (((flat c30.body)).drop 0) je2.E h=some (.ret,jns.E,h')/\Meets jns h':=by
 obtain ⟨h1,r1,m1⟩:=jal (jaa 55).1 (jaa 55).2 uK483 m
 obtain ⟨h2,r2,m2⟩:=uB484 m1
 obtain ⟨h3,r3,m3⟩:=jal (jaa 55).1 (jaa 55).2 uK548 m2
 exact ⟨h3,jai 2 r1 (jav (by kernel_rfl) r2 ((r3))),m3⟩
set_option maxRecDepth 100000 in
theorem uB477 {h:H} (m:Meets jka h) : ∃ h',D (jac prog fuel 56) fuel (nC (blkB (nC (lpB (blkB (nC c6.body 22))) 2)) 1) jka.E h=some (.normal,jm3.E,h')/\Meets jm3 h':=by
 obtain ⟨h1,r1,m1⟩:=ja7 uK479 (by kernel_rfl) (b:=h.nx) m
 obtain ⟨h2,r2,m2⟩:=uT481 (show Meets je2 _ from ⟨m1.nx,m1.has,m1.wf⟩)
 have hc:=jaA (d:=55) (f:=30) (fn:=c30) (args:=[(.ptr (some (7405,0))),(.i (0)),(.i (9))]) (l:=[(.i (1)),(.i (0))]) (by rfl) (by rfl) (by rfl) r2 m2 (by kernel_rfl)
 obtain ⟨h3,r3,m3⟩:=ja7 uK552 (by kernel_rfl) (b:=h.nx) (show Meets jm4 _ from ⟨m2.nx,jaQ m2.has (by kernel_rfl),m2.wf⟩)
 exact ⟨h3,D_of (c' := .region 0 (((rgO (nC (blkB (nC (lpB (blkB (nC c6.body 22))) 2)) 1))).take 4++jc6 (rgO (nC (blkB (nC (lpB (blkB (nC c6.body 22))) 2)) 1)) 4 :: ((rgO (nC (blkB (nC (lpB (blkB (nC c6.body 22))) 2)) 1))).drop 5) [3,6,9,10,11,18,23,24,119,120,121]) (by kernel_rfl) (jar (v:=(.tup [(.i (1)),(.i (0))])) r1 (by kernel_rfl) (jaq (by kernel_rfl) (by kernel_rfl) hc) (by kernel_rfl) (by kernel_rfl) r3 (by kernel_rfl)),⟨m3.nx,m3.has,m3.wf⟩⟩
set_option maxRecDepth 100000 in
theorem uT474 {h:H} (m:Meets jii h) : ∃ h',runL (jac prog fuel 56) fuel (((flat (blkB (nC (lpB (blkB (nC c6.body 22))) 2)))).drop 0) jii.E h=some (.normal,jif.E,h')/\Meets jif h':=by
 obtain ⟨h1,r1,m1⟩:=jal (jaa 56).1 (jaa 56).2 uK476 m
 obtain ⟨h2,r2,m2⟩:=uB477 m1
 obtain ⟨h3,r3,m3⟩:=jal (jaa 56).1 (jaa 56).2 uK556 m2
 exact ⟨h3,jai 1 r1 (jav (by kernel_rfl) r2 ((r3))),m3⟩
set_option maxRecDepth 100000 in
theorem uB473 {h:H} (m:Meets jii h) : ∃ h',D (jac prog fuel 56) fuel (nC (lpB (blkB (nC c6.body 22))) 2) jii.E h=some (.normal,jif.E,h')/\Meets jif h':=by
 obtain ⟨h1,r1,m1⟩:=uT474 m
 exact ⟨h1,D_of (c' := .block 5 (blkB (nC (lpB (blkB (nC c6.body 22))) 2))) (by kernel_rfl) (jaK (jbV r1)),m1⟩
set_option maxRecDepth 100000 in
theorem uT470 {h:H} (m:Meets jgT h) : ∃ h',runL (jac prog fuel 56) fuel (((flat (lpB (blkB (nC c6.body 22))))).drop 0) jgT.E h=some (.normal,jgR.E,h')/\Meets jgR h':=by
 obtain ⟨h1,r1,m1⟩:=jal (jaa 56).1 (jaa 56).2 uK472 m
 obtain ⟨h2,r2,m2⟩:=uB473 m1
 obtain ⟨h3,r3,m3⟩:=jal (jaa 56).1 (jaa 56).2 uK558 m2
 exact ⟨h3,jai 2 r1 (jav (by kernel_rfl) r2 ((r3))),m3⟩
set_option maxRecDepth 100000 in
theorem uT559 {h:H} (m:Meets jgR h) : ∃ h',runL (jac prog fuel 56) fuel (((flat (lpB (blkB (nC c6.body 22))))).drop 0) jgR.E h=some (.normal,jgQ.E,h')/\Meets jgQ h':=by
 obtain ⟨h1,r1,m1⟩:=jal (jaa 56).1 (jaa 56).2 uK565 m
 exact ⟨h1,(r1),m1⟩
set_option maxRecDepth 100000 in
theorem uT566 {h:H} (m:Meets jgQ h) : ∃ h',runL (jac prog fuel 56) fuel (((flat (lpB (blkB (nC c6.body 22))))).drop 0) jgQ.E h=some ((.exit 4),jie.E,h')/\Meets jie h':=by
 obtain ⟨h1,r1,m1⟩:=jal (jaa 56).1 (jaa 56).2 uK568 m
 exact ⟨h1,(r1),m1⟩
set_option maxRecDepth 100000 in
theorem uB469 {h:H} (m:Meets jgT h) : ∃ h',D (jac prog fuel 56) fuel (nC c6.body 22) jgT.E h=some (.normal,jie.E,h')/\Meets jie h':=by
 obtain ⟨h1,r1,m1⟩:=uT470 (show Meets jgT _ from ⟨m.nx,m.has,m.wf⟩)
 obtain ⟨h2,r2,m2⟩:=uT559 (show Meets jgR _ from ⟨m1.nx,m1.has,m1.wf⟩)
 obtain ⟨h3,r3,m3⟩:=uT566 (show Meets jgQ _ from ⟨m2.nx,m2.has,m2.wf⟩)
 exact ⟨h3,D_of (c' := .block 4 (.loop [3,6,9,10,11,18,119,120,121] (lpB (blkB (nC c6.body 22))))) (by kernel_rfl) (block_exit (jax r1 (jax r2 (loop_exit r3)))),m3⟩
set_option maxRecDepth 100000 in
theorem uT439 {h:H} (m:Meets jlk h) : ∃ h',runL (jac prog fuel 56) fuel (((flat c6.body)).drop 0) jlk.E h=some (.ret,jnr.E,h')/\Meets jnr h':=by
 obtain ⟨h1,r1,m1⟩:=jal (jaa 56).1 (jaa 56).2 uK468 m
 obtain ⟨h2,r2,m2⟩:=uB469 m1
 obtain ⟨h3,r3,m3⟩:=jal (jaa 56).1 (jaa 56).2 uK573 m2
 exact ⟨h3,jai 22 r1 (jav (by kernel_rfl) r2 ((r3))),m3⟩
set_option maxRecDepth 100000 in
theorem uB435 {h:H} (m:Meets jkb h) : ∃ h',D (jac prog fuel 57) fuel (nC (blkB (nC (lpB (blkB (nC c4.body 6))) 2)) 1) jkb.E h=some (.normal,jm1.E,h')/\Meets jm1 h':=by
 obtain ⟨h1,r1,m1⟩:=ja7 uK437 (by kernel_rfl) (b:=h.nx) m
 obtain ⟨h2,r2,m2⟩:=uT439 (show Meets jlk _ from ⟨m1.nx,m1.has,m1.wf⟩)
 have hc:=jaA (d:=56) (f:=6) (fn:=c6) (args:=[(.agg [(.slice (some (3893,0)) 1 (.fix 1)),(.slice (some (3896,0)) 1 (.fix 1)),(.slice (some (3899,0)) 1 (.fix 1)),(.slice (some (3900,0)) 2 (.fix 2)),(.i (9))]),(.i (4)),(.i (1))]) (l:=[(.agg [(.slice (some (8743,0)) 8 (.grow 1)),(.slice (some (8745,0)) 6 (.grow 7)),(.slice (some (8895,0)) 7 (.grow 1))]),(.i (0))]) (by rfl) (by rfl) (by rfl) r2 m2 (by kernel_rfl)
 obtain ⟨h3,r3,m3⟩:=ja7 uK579 (by kernel_rfl) (b:=h.nx) (show Meets jm2 _ from ⟨m2.nx,jaQ m2.has (by kernel_rfl),m2.wf⟩)
 exact ⟨h3,D_of (c' := .region 0 (((rgO (nC (blkB (nC (lpB (blkB (nC c4.body 6))) 2)) 1))).take 4++jc6 (rgO (nC (blkB (nC (lpB (blkB (nC c4.body 6))) 2)) 1)) 4 :: ((rgO (nC (blkB (nC (lpB (blkB (nC c4.body 6))) 2)) 1))).drop 5) [1,2,4,6,7,9,10,22]) (by kernel_rfl) (jar (v:=(.tup [(.agg [(.slice (some (8743,0)) 8 (.grow 1)),(.slice (some (8745,0)) 6 (.grow 7)),(.slice (some (8895,0)) 7 (.grow 1))]),(.i (0))])) r1 (by kernel_rfl) (jaq (by kernel_rfl) (by kernel_rfl) hc) (by kernel_rfl) (by kernel_rfl) r3 (by kernel_rfl)),⟨m3.nx,m3.has,m3.wf⟩⟩
set_option maxRecDepth 100000 in
theorem uT432 {h:H} (m:Meets jij h) : ∃ h',runL (jac prog fuel 57) fuel (((flat (blkB (nC (lpB (blkB (nC c4.body 6))) 2)))).drop 0) jij.E h=some (.normal,jid.E,h')/\Meets jid h':=by
 obtain ⟨h1,r1,m1⟩:=jal (jaa 57).1 (jaa 57).2 uK434 m
 obtain ⟨h2,r2,m2⟩:=uB435 m1
 obtain ⟨h3,r3,m3⟩:=jal (jaa 57).1 (jaa 57).2 uK583 m2
 exact ⟨h3,jai 1 r1 (jav (by kernel_rfl) r2 ((r3))),m3⟩
set_option maxRecDepth 100000 in
theorem uB431 {h:H} (m:Meets jij h) : ∃ h',D (jac prog fuel 57) fuel (nC (lpB (blkB (nC c4.body 6))) 2) jij.E h=some (.normal,jid.E,h')/\Meets jid h':=by
 obtain ⟨h1,r1,m1⟩:=uT432 m
 exact ⟨h1,D_of (c' := .block 1 (blkB (nC (lpB (blkB (nC c4.body 6))) 2))) (by kernel_rfl) (jaK (jbV r1)),m1⟩
set_option maxRecDepth 100000 in
theorem uT428 {h:H} (m:Meets jgU h) : ∃ h',runL (jac prog fuel 57) fuel (((flat (lpB (blkB (nC c4.body 6))))).drop 0) jgU.E h=some (.normal,jgP.E,h')/\Meets jgP h':=by
 obtain ⟨h1,r1,m1⟩:=jal (jaa 57).1 (jaa 57).2 uK430 m
 obtain ⟨h2,r2,m2⟩:=uB431 m1
 obtain ⟨h3,r3,m3⟩:=jal (jaa 57).1 (jaa 57).2 uK585 m2
 exact ⟨h3,jai 2 r1 (jav (by kernel_rfl) r2 ((r3))),m3⟩
set_option maxRecDepth 100000 in
theorem uT586 {h:H} (m:Meets jgP h) : ∃ h',runL (jac prog fuel 57) fuel (((flat (lpB (blkB (nC c4.body 6))))).drop 0) jgP.E h=some ((.exit 0),jic.E,h')/\Meets jic h':=by
 obtain ⟨h1,r1,m1⟩:=jal (jaa 57).1 (jaa 57).2 uK588 m
 exact ⟨h1,(r1),m1⟩
set_option maxRecDepth 100000 in
theorem uB265 {h:H} (m:Meets jhb h) : ∃ h',D (jac prog fuel 57) fuel (nC c4.body 6) jhb.E h=some (.normal,jic.E,h')/\Meets jic h':=by
 obtain ⟨h1,r1,m1⟩:=uT266 (show Meets jhb _ from ⟨m.nx,m.has,m.wf⟩)
 obtain ⟨h2,r2,m2⟩:=uT419 (show Meets jgW _ from ⟨m1.nx,m1.has,m1.wf⟩)
 obtain ⟨h3,r3,m3⟩:=uT423 (show Meets jgV _ from ⟨m2.nx,m2.has,m2.wf⟩)
 obtain ⟨h4,r4,m4⟩:=uT428 (show Meets jgU _ from ⟨m3.nx,m3.has,m3.wf⟩)
 obtain ⟨h5,r5,m5⟩:=uT586 (show Meets jgP _ from ⟨m4.nx,m4.has,m4.wf⟩)
 exact ⟨h5,D_of (c' := .block 0 (.loop [1,2,4,6,7,22] (lpB (blkB (nC c4.body 6))))) (by kernel_rfl) (block_exit (jax r1 (jax r2 (jax r3 (jax r4 (loop_exit r5)))))),m5⟩
set_option maxRecDepth 100000 in
theorem uT258 {h:H} (m:Meets jln h) : ∃ h',runL (jac prog fuel 57) fuel (((flat c4.body)).drop 0) jln.E h=some (.ret,jnq.E,h')/\Meets jnq h':=by
 obtain ⟨h1,r1,m1⟩:=jal (jaa 57).1 (jaa 57).2 uK264 m
 obtain ⟨h2,r2,m2⟩:=uB265 m1
 obtain ⟨h3,r3,m3⟩:=jal (jaa 57).1 (jaa 57).2 uK591 m2
 exact ⟨h3,jai 6 r1 (jav (by kernel_rfl) r2 ((r3))),m3⟩
set_option maxRecDepth 100000 in
theorem uB249 {h:H} (m:Meets jkg h) : ∃ h',D (jac prog fuel 58) fuel (nC c18.body 2) jkg.E h=some (.normal,jmz.E,h')/\Meets jmz h':=by
 obtain ⟨h1,r1,m1⟩:=ja7 uK256 (by kernel_rfl) (b:=h.nx) m
 obtain ⟨h2,r2,m2⟩:=uT258 (show Meets jln _ from ⟨m1.nx,m1.has,m1.wf⟩)
 have hc:=jaA (d:=57) (f:=4) (fn:=c4) (args:=[(.agg [(.slice (some (3893,0)) 1 (.fix 1)),(.slice (some (3896,0)) 1 (.fix 1)),(.slice (some (3899,0)) 1 (.fix 1)),(.slice (some (3900,0)) 2 (.fix 2)),(.i (9))]),(.i (1))]) (l:=[(.agg [(.i (-1)),(.i (-1)),(.i (-1)),(.i (-1))]),(.i (0))]) (by rfl) (by rfl) (by rfl) r2 m2 (by kernel_rfl)
 obtain ⟨h3,r3,m3⟩:=ja7 uK596 (by kernel_rfl) (b:=h.nx) (show Meets jm0 _ from ⟨m2.nx,jaQ m2.has (by kernel_rfl),m2.wf⟩)
 exact ⟨h3,D_of (c' := .region 0 (((rgO (nC c18.body 2))).take 1++jc6 (rgO (nC c18.body 2)) 1 :: ((rgO (nC c18.body 2))).drop 2) [1,2,3,4]) (by kernel_rfl) (jar (v:=(.tup [(.agg [(.i (-1)),(.i (-1)),(.i (-1)),(.i (-1))]),(.i (0))])) r1 (by kernel_rfl) (jaq (by kernel_rfl) (by kernel_rfl) hc) (by kernel_rfl) (by kernel_rfl) r3 (by kernel_rfl)),⟨m3.nx,m3.has,m3.wf⟩⟩
set_option maxRecDepth 100000 in
theorem uT243 {h:H} (m:Meets jlo h) : ∃ h',runL (jac prog fuel 58) fuel (((flat c18.body)).drop 0) jlo.E h=some (.ret,jnp.E,h')/\Meets jnp h':=by
 obtain ⟨h1,r1,m1⟩:=jal (jaa 58).1 (jaa 58).2 uK248 m
 obtain ⟨h2,r2,m2⟩:=uB249 m1
 obtain ⟨h3,r3,m3⟩:=jal (jaa 58).1 (jaa 58).2 uK598 m2
 exact ⟨h3,jai 2 r1 (jav (by kernel_rfl) r2 ((r3))),m3⟩
set_option maxRecDepth 100000 in
theorem uB239 {h:H} (m:Meets jkh h) : ∃ h',D (jac prog fuel 59) fuel (nC c3.body 26) jkh.E h=some (.normal,jgO.E,h')/\Meets jgO h':=by
 obtain ⟨h1,r1,m1⟩:=ja7 uK241 (by kernel_rfl) (b:=h.nx) m
 obtain ⟨h2,r2,m2⟩:=uT243 (show Meets jlo _ from ⟨m1.nx,m1.has,m1.wf⟩)
 have hc:=jaA (d:=58) (f:=18) (fn:=c18) (args:=[]) (l:=[(.bool true)]) (by rfl) (by rfl) (by rfl) r2 m2 (by kernel_rfl)
 obtain ⟨h3,r3,m3⟩:=ja7 uK602 (by kernel_rfl) (b:=h.nx) (show Meets jmy _ from ⟨m2.nx,jaQ m2.has (by kernel_rfl),m2.wf⟩)
 exact ⟨h3,D_of (c' := .region 0 (((rgO (nC c3.body 26))).take 1++jc6 (rgO (nC c3.body 26)) 1 :: ((rgO (nC c3.body 26))).drop 2) [0]) (by kernel_rfl) (jar (v:=(.bool true)) r1 (by kernel_rfl) (jaq (by kernel_rfl) (by kernel_rfl) hc) (by kernel_rfl) (by kernel_rfl) r3 (by kernel_rfl)),⟨m3.nx,m3.has,m3.wf⟩⟩
set_option maxRecDepth 100000 in
theorem uT5 {h:H} (m:Meets uS4 h) : ∃ h',runL (jac prog fuel 59) fuel (((flat c3.body)).drop 0) uS4.E h=some (.ret,jgO.E,h')/\Meets jgO h':=by
 obtain ⟨h1,r1,m1⟩:=jal (jaa 59).1 (jaa 59).2 uK8 m
 obtain ⟨h2,r2,m2⟩:=uB9 m1
 obtain ⟨h3,r3,m3⟩:=jal (jaa 59).1 (jaa 59).2 uK238 m2
 obtain ⟨h4,r4,m4⟩:=uB239 m3
 obtain ⟨h5,r5,m5⟩:=jal (jaa 59).1 (jaa 59).2 uK603 m4
 exact ⟨h5,jai 1 r1 (jav (by kernel_rfl) r2 (jai 24 r3 (jav (by kernel_rfl) r4 ((r5))))),m5⟩
end Am.Sigs
