/- Our own library, part 25. -/
import Derived.Test.YtkhkjhojpoandaaGreatDoorW17
import Derived.Test.YtkhkjhojpoandaaGreatDoorW18
import Derived.Test.YtkhkjhojpoandaaGreatDoorW19
import Derived.Test.YtkhkjhojpoandaaGreatDoorW20
import Derived.Test.YtkhkjhojpoandaaGreatDoorW21
import Derived.Test.YtkhkjhojpoandaaGreatDoorW22
import Derived.Test.YtkhkjhojpoandaaGreatDoorW23
import Derived.Test.YtkhkjhojpoandaaGreatDoorW24
set_option maxHeartbeats 8000000
set_option maxRecDepth 800
set_option linter.all false
namespace Am.Sigs
open Am Go
set_option maxRecDepth 100000 in
theorem uT62 {h:H} (m:Meets uS59 h) : ∃ h',runL (jab prog fuel 58) fuel (((flat (lpB (blkB ((((flat c4.body)).drop 16).headD .skip))))).drop 0) uS59.E h=some (.normal,uS76.E,h')/\Meets uS76 h':=by
 obtain ⟨h1,r1,m1⟩:=jah (jaa 58).1 (jaa 58).2 uK77 m
 exact ⟨h1,(r1),m1⟩
set_option maxRecDepth 100000 in
theorem uT78 {h:H} (m:Meets uS76 h) : ∃ h',runL (jab prog fuel 58) fuel (((flat (lpB (blkB ((((flat c4.body)).drop 16).headD .skip))))).drop 0) uS76.E h=some (.normal,uS91.E,h')/\Meets uS91 h':=by
 obtain ⟨h1,r1,m1⟩:=jah (jaa 58).1 (jaa 58).2 uK92 m
 exact ⟨h1,(r1),m1⟩
set_option maxRecDepth 100000 in
theorem uT93 {h:H} (m:Meets uS91 h) : ∃ h',runL (jab prog fuel 58) fuel (((flat (lpB (blkB ((((flat c4.body)).drop 16).headD .skip))))).drop 0) uS91.E h=some (.normal,uS99.E,h')/\Meets uS99 h':=by
 obtain ⟨h1,r1,m1⟩:=jah (jaa 58).1 (jaa 58).2 uK100 m
 exact ⟨h1,(r1),m1⟩
set_option maxRecDepth 100000 in
theorem uT101 {h:H} (m:Meets uS99 h) : ∃ h',runL (jab prog fuel 58) fuel (((flat (lpB (blkB ((((flat c4.body)).drop 16).headD .skip))))).drop 0) uS99.E h=some (.normal,jip.E,h')/\Meets jip h':=by
 obtain ⟨h1,r1,m1⟩:=jah (jaa 58).1 (jaa 58).2 uK115 m
 exact ⟨h1,(r1),m1⟩
set_option maxRecDepth 100000 in
theorem uT116 {h:H} (m:Meets jip h) : ∃ h',runL (jab prog fuel 58) fuel (((flat (lpB (blkB ((((flat c4.body)).drop 16).headD .skip))))).drop 0) jip.E h=some ((.exit 2),jks.E,h')/\Meets jks h':=by
 obtain ⟨h1,r1,m1⟩:=jah (jaa 58).1 (jaa 58).2 uK118 m
 exact ⟨h1,(r1),m1⟩
set_option maxRecDepth 100000 in
theorem uB61 {h:H} (m:Meets uS59 h) : ∃ h',D (jab prog fuel 58) fuel ((((flat c4.body)).drop 16).headD .skip) uS59.E h=some (.normal,jks.E,h')/\Meets jks h':=by
 obtain ⟨h1,r1,m1⟩:=uT62 (show Meets uS59 _ from ⟨m.nx,m.has,m.wf⟩)
 obtain ⟨h2,r2,m2⟩:=uT78 (show Meets uS76 _ from ⟨m1.nx,m1.has,m1.wf⟩)
 obtain ⟨h3,r3,m3⟩:=uT93 (show Meets uS91 _ from ⟨m2.nx,m2.has,m2.wf⟩)
 obtain ⟨h4,r4,m4⟩:=uT101 (show Meets uS99 _ from ⟨m3.nx,m3.has,m3.wf⟩)
 obtain ⟨h5,r5,m5⟩:=uT116 (show Meets jip _ from ⟨m4.nx,m4.has,m4.wf⟩)
 exact ⟨h5,D_of (c' := .block 2 (.loop [3,6,11,100,101] (lpB (blkB ((((flat c4.body)).drop 16).headD .skip))))) (by kernel_rfl) (block_exit (jai r1 (jai r2 (jai r3 (jai r4 (loop_exit r5)))))),m5⟩
set_option maxRecDepth 100000 in
theorem uT29 {h:H} (m:Meets uS28 h) : ∃ h',runL (jab prog fuel 58) fuel (((flat c4.body)).drop 0) uS28.E h=some (.ret,jp4.E,h')/\Meets jp4 h':=by
 obtain ⟨h1,r1,m1⟩:=jah (jaa 58).1 (jaa 58).2 uK60 m
 obtain ⟨h2,r2,m2⟩:=uB61 m1
 obtain ⟨h3,r3,m3⟩:=jah (jaa 58).1 (jaa 58).2 uK122 m2
 exact ⟨h3,jak 16 r1 (jam (by kernel_rfl) r2 ((r3))),m3⟩
set_option maxRecDepth 100000 in
theorem uB25 {h:H} (m:Meets uS23 h) : ∃ h',D (jab prog fuel 59) fuel ((((flat (blkB ((((flat (lpB (blkB ((((flat c3.body)).drop 4).headD .skip))))).drop 2).headD .skip)))).drop 1).headD .skip) uS23.E h=some (.normal,jkr.E,h')/\Meets jkr h':=by
 obtain ⟨h1,r1,m1⟩:=jaw uK27 (by kernel_rfl) (b:=h.nx) m
 obtain ⟨h2,r2,m2⟩:=uT29 (show Meets uS28 _ from ⟨m1.nx,m1.has,m1.wf⟩)
 have hc:=ja2 (d:=58) (f:=4) (fn:=c4) (args:=[(.agg [(.slice none 0 (.fix 0)),(.slice none 0 (.fix 0)),(.slice (some (8,0)) 3 (.fix 3)),(.slice (some (9,0)) 4 (.fix 4)),(.i (20))]),(.i (1)),(.i (3))]) (l:=[(.agg [(.slice (some (3804,0)) 15 (.grow 1)),(.slice (some (3806,0)) 16 (.grow 7)),(.ptr (some (17,0))),(.slice (some (71,0)) 2 (.grow 1))]),(.i (1))]) (by rfl) (by rfl) (by rfl) r2 m2 (by kernel_rfl)
 obtain ⟨h3,r3,m3⟩:=jaw uK128 (by kernel_rfl) (b:=h.nx) (show Meets joI _ from ⟨m2.nx,jaC m2.has (by kernel_rfl),m2.wf⟩)
 exact ⟨h3,D_of (c' := .region 0 (((rgO ((((flat (blkB ((((flat (lpB (blkB ((((flat c3.body)).drop 4).headD .skip))))).drop 2).headD .skip)))).drop 1).headD .skip))).take 2++jce (rgO ((((flat (blkB ((((flat (lpB (blkB ((((flat c3.body)).drop 4).headD .skip))))).drop 2).headD .skip)))).drop 1).headD .skip)) 2 :: ((rgO ((((flat (blkB ((((flat (lpB (blkB ((((flat c3.body)).drop 4).headD .skip))))).drop 2).headD .skip)))).drop 1).headD .skip))).drop 3) [1,2,3,5,6]) (by kernel_rfl) (jap (v:=(.tup [(.agg [(.slice (some (3804,0)) 15 (.grow 1)),(.slice (some (3806,0)) 16 (.grow 7)),(.ptr (some (17,0))),(.slice (some (71,0)) 2 (.grow 1))]),(.i (1))])) r1 (by kernel_rfl) (jao (by kernel_rfl) (by kernel_rfl) hc) (by kernel_rfl) (by kernel_rfl) r3 (by kernel_rfl)),⟨m3.nx,m3.has,m3.wf⟩⟩
set_option maxRecDepth 100000 in
theorem uT163 {h:H} (m:Meets jio h) : ∃ h',runL (jab prog fuel 58) fuel (((flat (lpB (blkB ((((flat c4.body)).drop 16).headD .skip))))).drop 0) jio.E h=some (.normal,jin.E,h')/\Meets jin h':=by
 obtain ⟨h1,r1,m1⟩:=jah (jaa 58).1 (jaa 58).2 uK170 m
 exact ⟨h1,(r1),m1⟩
set_option maxRecDepth 100000 in
theorem uT171 {h:H} (m:Meets jin h) : ∃ h',runL (jab prog fuel 58) fuel (((flat (lpB (blkB ((((flat c4.body)).drop 16).headD .skip))))).drop 0) jin.E h=some (.normal,jim.E,h')/\Meets jim h':=by
 obtain ⟨h1,r1,m1⟩:=jah (jaa 58).1 (jaa 58).2 uK178 m
 exact ⟨h1,(r1),m1⟩
set_option maxRecDepth 100000 in
theorem uT179 {h:H} (m:Meets jim h) : ∃ h',runL (jab prog fuel 58) fuel (((flat (lpB (blkB ((((flat c4.body)).drop 16).headD .skip))))).drop 0) jim.E h=some ((.exit 2),jkq.E,h')/\Meets jkq h':=by
 obtain ⟨h1,r1,m1⟩:=jah (jaa 58).1 (jaa 58).2 uK181 m
 exact ⟨h1,(r1),m1⟩
set_option maxRecDepth 100000 in
theorem uB162 {h:H} (m:Meets jio h) : ∃ h',D (jab prog fuel 58) fuel ((((flat c4.body)).drop 16).headD .skip) jio.E h=some (.normal,jkq.E,h')/\Meets jkq h':=by
 obtain ⟨h1,r1,m1⟩:=uT163 (show Meets jio _ from ⟨m.nx,m.has,m.wf⟩)
 obtain ⟨h2,r2,m2⟩:=uT171 (show Meets jin _ from ⟨m1.nx,m1.has,m1.wf⟩)
 obtain ⟨h3,r3,m3⟩:=uT179 (show Meets jim _ from ⟨m2.nx,m2.has,m2.wf⟩)
 exact ⟨h3,D_of (c' := .block 2 (.loop [3,6,11,100,101] (lpB (blkB ((((flat c4.body)).drop 16).headD .skip))))) (by kernel_rfl) (block_exit (jai r1 (jai r2 (loop_exit r3)))),m3⟩
set_option maxRecDepth 100000 in
theorem uT136 {h:H} (m:Meets jnj h) : ∃ h',runL (jab prog fuel 58) fuel (((flat c4.body)).drop 0) jnj.E h=some (.ret,jp3.E,h')/\Meets jp3 h':=by
 obtain ⟨h1,r1,m1⟩:=jah (jaa 58).1 (jaa 58).2 uK161 m
 obtain ⟨h2,r2,m2⟩:=uB162 m1
 obtain ⟨h3,r3,m3⟩:=jah (jaa 58).1 (jaa 58).2 uK185 m2
 exact ⟨h3,jak 16 r1 (jam (by kernel_rfl) r2 ((r3))),m3⟩
set_option maxRecDepth 100000 in
theorem uB129 {h:H} (m:Meets jkr h) : ∃ h',D (jab prog fuel 59) fuel ((((flat (blkB ((((flat (lpB (blkB ((((flat c3.body)).drop 4).headD .skip))))).drop 2).headD .skip)))).drop 2).headD .skip) jkr.E h=some (.normal,jkp.E,h')/\Meets jkp h':=by
 obtain ⟨h1,r1,m1⟩:=jaw uK134 (by kernel_rfl) (b:=h.nx) m
 obtain ⟨h2,r2,m2⟩:=uT136 (show Meets jnj _ from ⟨m1.nx,m1.has,m1.wf⟩)
 have hc:=ja2 (d:=58) (f:=4) (fn:=c4) (args:=[(.agg [(.slice none 0 (.fix 0)),(.slice none 0 (.fix 0)),(.slice (some (3808,0)) 1 (.fix 1)),(.slice (some (3809,0)) 2 (.fix 2)),(.i (5))]),(.i (1)),(.i (3))]) (l:=[(.agg [(.slice (some (5099,0)) 7 (.grow 1)),(.slice (some (5101,0)) 4 (.grow 7)),(.ptr (some (3816,0))),(.slice (some (3870,0)) 2 (.grow 1))]),(.i (1))]) (by rfl) (by rfl) (by rfl) r2 m2 (by kernel_rfl)
 obtain ⟨h3,r3,m3⟩:=jaw uK191 (by kernel_rfl) (b:=h.nx) (show Meets joH _ from ⟨m2.nx,jaC m2.has (by kernel_rfl),m2.wf⟩)
 exact ⟨h3,D_of (c' := .region 0 (((rgO ((((flat (blkB ((((flat (lpB (blkB ((((flat c3.body)).drop 4).headD .skip))))).drop 2).headD .skip)))).drop 2).headD .skip))).take 6++jce (rgO ((((flat (blkB ((((flat (lpB (blkB ((((flat c3.body)).drop 4).headD .skip))))).drop 2).headD .skip)))).drop 2).headD .skip)) 6 :: ((rgO ((((flat (blkB ((((flat (lpB (blkB ((((flat c3.body)).drop 4).headD .skip))))).drop 2).headD .skip)))).drop 2).headD .skip))).drop 7) [1,2,3,5,6,7]) (by kernel_rfl) (jap (v:=(.tup [(.agg [(.slice (some (5099,0)) 7 (.grow 1)),(.slice (some (5101,0)) 4 (.grow 7)),(.ptr (some (3816,0))),(.slice (some (3870,0)) 2 (.grow 1))]),(.i (1))])) r1 (by kernel_rfl) (jao (by kernel_rfl) (by kernel_rfl) hc) (by kernel_rfl) (by kernel_rfl) r3 (by kernel_rfl)),⟨m3.nx,m3.has,m3.wf⟩⟩
set_option maxRecDepth 100000 in
theorem uT245 {h:H} (m:Meets jik h) : ∃ h',runL (jab prog fuel 56) fuel (((flat (lpB (blkB ((((flat c24.body)).drop 2).headD .skip))))).drop 0) jik.E h=some (.normal,jij.E,h')/\Meets jij h':=by
 obtain ⟨h1,r1,m1⟩:=jah (jaa 56).1 (jaa 56).2 uK256 m
 exact ⟨h1,(r1),m1⟩
set_option maxRecDepth 100000 in
theorem uT257 {h:H} (m:Meets jij h) : ∃ h',runL (jab prog fuel 56) fuel (((flat (lpB (blkB ((((flat c24.body)).drop 2).headD .skip))))).drop 0) jij.E h=some (.normal,jii.E,h')/\Meets jii h':=by
 obtain ⟨h1,r1,m1⟩:=jah (jaa 56).1 (jaa 56).2 uK267 m
 exact ⟨h1,(r1),m1⟩
set_option maxRecDepth 100000 in
theorem uT268 {h:H} (m:Meets jii h) : ∃ h',runL (jab prog fuel 56) fuel (((flat (lpB (blkB ((((flat c24.body)).drop 2).headD .skip))))).drop 0) jii.E h=some (.normal,jih.E,h')/\Meets jih h':=by
 obtain ⟨h1,r1,m1⟩:=jah (jaa 56).1 (jaa 56).2 uK279 m
 exact ⟨h1,(r1),m1⟩
set_option maxRecDepth 100000 in
theorem uT280 {h:H} (m:Meets jih h) : ∃ h',runL (jab prog fuel 56) fuel (((flat (lpB (blkB ((((flat c24.body)).drop 2).headD .skip))))).drop 0) jih.E h=some (.normal,jig.E,h')/\Meets jig h':=by
 obtain ⟨h1,r1,m1⟩:=jah (jaa 56).1 (jaa 56).2 uK291 m
 exact ⟨h1,(r1),m1⟩
set_option maxRecDepth 100000 in
theorem uT292 {h:H} (m:Meets jig h) : ∃ h',runL (jab prog fuel 56) fuel (((flat (lpB (blkB ((((flat c24.body)).drop 2).headD .skip))))).drop 0) jig.E h=some (.normal,jif.E,h')/\Meets jif h':=by
 obtain ⟨h1,r1,m1⟩:=jah (jaa 56).1 (jaa 56).2 uK303 m
 exact ⟨h1,(r1),m1⟩
set_option maxRecDepth 100000 in
theorem uT304 {h:H} (m:Meets jif h) : ∃ h',runL (jab prog fuel 56) fuel (((flat (lpB (blkB ((((flat c24.body)).drop 2).headD .skip))))).drop 0) jif.E h=some (.ret,jkn.E,h')/\Meets jkn h':=by
 obtain ⟨h1,r1,m1⟩:=jah (jaa 56).1 (jaa 56).2 uK306 m
 exact ⟨h1,(r1),m1⟩
set_option maxRecDepth 100000 in
theorem uB244 {h:H} (m:Meets jik h) : ∃ h',D (jab prog fuel 56) fuel ((((flat c24.body)).drop 2).headD .skip) jik.E h=some (.ret,jkn.E,h')/\Meets jkn h':=by
 obtain ⟨h1,r1,m1⟩:=uT245 (show Meets jik _ from ⟨m.nx,m.has,m.wf⟩)
 obtain ⟨h2,r2,m2⟩:=uT257 (show Meets jij _ from ⟨m1.nx,m1.has,m1.wf⟩)
 obtain ⟨h3,r3,m3⟩:=uT268 (show Meets jii _ from ⟨m2.nx,m2.has,m2.wf⟩)
 obtain ⟨h4,r4,m4⟩:=uT280 (show Meets jih _ from ⟨m3.nx,m3.has,m3.wf⟩)
 obtain ⟨h5,r5,m5⟩:=uT292 (show Meets jig _ from ⟨m4.nx,m4.has,m4.wf⟩)
 obtain ⟨h6,r6,m6⟩:=uT304 (show Meets jif _ from ⟨m5.nx,m5.has,m5.wf⟩)
 exact ⟨h6,D_of (c' := .block 0 (.loop [0,1,2,8] (lpB (blkB ((((flat c24.body)).drop 2).headD .skip))))) (by kernel_rfl) (block_ret (jai r1 (jai r2 (jai r3 (jai r4 (jai r5 (loop_ret r6))))))),m6⟩
set_option maxRecDepth 100000 in
theorem uT241 {h:H} (m:Meets jfA h) : ∃ h',runL (jab prog fuel 56) fuel (((flat c24.body)).drop 0) jfA.E h=some (.ret,jkn.E,h')/\Meets jkn h':=by
 obtain ⟨h1,r1,m1⟩:=jah (jaa 56).1 (jaa 56).2 uK243 m
 obtain ⟨h2,r2,m2⟩:=uB244 m1
 exact ⟨h2,jak 2 r1 ((je2 (by kernel_rfl) r2 (by rfl))),m2⟩
set_option maxRecDepth 100000 in
theorem uB238 {h:H} (m:Meets jmc h) : ∃ h',D (jab prog fuel 57) fuel ((((flat c8.body)).drop 2).headD .skip) jmc.E h=some (.normal,joF.E,h')/\Meets joF h':=by
 obtain ⟨h1,r1,m1⟩:=jaw uK240 (by kernel_rfl) (b:=h.nx) m
 obtain ⟨h2,r2,m2⟩:=uT241 (show Meets jfA _ from ⟨m1.nx,m1.has,m1.wf⟩)
 have hc:=ja2 (d:=56) (f:=24) (fn:=c24) (args:=[(.ptr (some (5161,0))),(.i (0)),(.i (5))]) (l:=[(.i (3)),(.i (0))]) (by rfl) (by rfl) (by rfl) r2 m2 (by kernel_rfl)
 obtain ⟨h3,r3,m3⟩:=jaw uK310 (by kernel_rfl) (b:=h.nx) (show Meets joG _ from ⟨m2.nx,jaC m2.has (by kernel_rfl),m2.wf⟩)
 exact ⟨h3,D_of (c' := .region 0 (((rgO ((((flat c8.body)).drop 2).headD .skip))).take 3++jce (rgO ((((flat c8.body)).drop 2).headD .skip)) 3 :: ((rgO ((((flat c8.body)).drop 2).headD .skip))).drop 4) [0,8,9]) (by kernel_rfl) (jap (v:=(.tup [(.i (3)),(.i (0))])) r1 (by kernel_rfl) (jao (by kernel_rfl) (by kernel_rfl) hc) (by kernel_rfl) (by kernel_rfl) r3 (by kernel_rfl)),⟨m3.nx,m3.has,m3.wf⟩⟩
set_option maxRecDepth 100000 in
theorem uT235 {h:H} (m:Meets jfA h) : ∃ h',runL (jab prog fuel 57) fuel (((flat c8.body)).drop 0) jfA.E h=some (.ret,jp2.E,h')/\Meets jp2 h':=by
 obtain ⟨h1,r1,m1⟩:=jah (jaa 57).1 (jaa 57).2 uK237 m
 obtain ⟨h2,r2,m2⟩:=uB238 m1
 obtain ⟨h3,r3,m3⟩:=jah (jaa 57).1 (jaa 57).2 uK315 m2
 exact ⟨h3,jak 2 r1 (jam (by kernel_rfl) r2 ((r3))),m3⟩
set_option maxRecDepth 100000 in
theorem uB231 {h:H} (m:Meets jmd h) : ∃ h',D (jab prog fuel 58) fuel ((((flat (blkB ((((flat (lpB (blkB ((((flat c4.body)).drop 16).headD .skip))))).drop 2).headD .skip)))).drop 1).headD .skip) jmd.E h=some (.normal,joD.E,h')/\Meets joD h':=by
 obtain ⟨h1,r1,m1⟩:=jaw uK233 (by kernel_rfl) (b:=h.nx) m
 obtain ⟨h2,r2,m2⟩:=uT235 (show Meets jfA _ from ⟨m1.nx,m1.has,m1.wf⟩)
 have hc:=ja2 (d:=57) (f:=8) (fn:=c8) (args:=[(.ptr (some (5161,0))),(.i (0)),(.i (5))]) (l:=[(.i (3)),(.i (0))]) (by rfl) (by rfl) (by rfl) r2 m2 (by kernel_rfl)
 obtain ⟨h3,r3,m3⟩:=jaw uK319 (by kernel_rfl) (b:=h.nx) (show Meets joE _ from ⟨m2.nx,jaC m2.has (by kernel_rfl),m2.wf⟩)
 exact ⟨h3,D_of (c' := .region 0 (((rgO ((((flat (blkB ((((flat (lpB (blkB ((((flat c4.body)).drop 16).headD .skip))))).drop 2).headD .skip)))).drop 1).headD .skip))).take 8++jce (rgO ((((flat (blkB ((((flat (lpB (blkB ((((flat c4.body)).drop 16).headD .skip))))).drop 2).headD .skip)))).drop 1).headD .skip)) 8 :: ((rgO ((((flat (blkB ((((flat (lpB (blkB ((((flat c4.body)).drop 16).headD .skip))))).drop 2).headD .skip)))).drop 1).headD .skip))).drop 9) [3,6,11,17,18,100,101]) (by kernel_rfl) (jap (v:=(.tup [(.i (3)),(.i (0))])) r1 (by kernel_rfl) (jao (by kernel_rfl) (by kernel_rfl) hc) (by kernel_rfl) (by kernel_rfl) r3 (by kernel_rfl)),⟨m3.nx,m3.has,m3.wf⟩⟩
set_option maxRecDepth 100000 in
theorem uT228 {h:H} (m:Meets jko h) : ∃ h',runL (jab prog fuel 58) fuel (((flat (blkB ((((flat (lpB (blkB ((((flat c4.body)).drop 16).headD .skip))))).drop 2).headD .skip)))).drop 0) jko.E h=some (.normal,jkm.E,h')/\Meets jkm h':=by
 obtain ⟨h1,r1,m1⟩:=jah (jaa 58).1 (jaa 58).2 uK230 m
 obtain ⟨h2,r2,m2⟩:=uB231 m1
 obtain ⟨h3,r3,m3⟩:=jah (jaa 58).1 (jaa 58).2 uK324 m2
 exact ⟨h3,jak 1 r1 (jam (by kernel_rfl) r2 ((r3))),m3⟩
set_option maxRecDepth 100000 in
theorem uB227 {h:H} (m:Meets jko h) : ∃ h',D (jab prog fuel 58) fuel ((((flat (lpB (blkB ((((flat c4.body)).drop 16).headD .skip))))).drop 2).headD .skip) jko.E h=some (.normal,jkm.E,h')/\Meets jkm h':=by
 obtain ⟨h1,r1,m1⟩:=uT228 m
 exact ⟨h1,D_of (c' := .block 3 (blkB ((((flat (lpB (blkB ((((flat c4.body)).drop 16).headD .skip))))).drop 2).headD .skip))) (by kernel_rfl) (ja9 (jb2 r1)),m1⟩
set_option maxRecDepth 100000 in
theorem uT224 {h:H} (m:Meets jil h) : ∃ h',runL (jab prog fuel 58) fuel (((flat (lpB (blkB ((((flat c4.body)).drop 16).headD .skip))))).drop 0) jil.E h=some (.normal,jie.E,h')/\Meets jie h':=by
 obtain ⟨h1,r1,m1⟩:=jah (jaa 58).1 (jaa 58).2 uK226 m
 obtain ⟨h2,r2,m2⟩:=uB227 m1
 obtain ⟨h3,r3,m3⟩:=jah (jaa 58).1 (jaa 58).2 uK326 m2
 exact ⟨h3,jak 2 r1 (jam (by kernel_rfl) r2 ((r3))),m3⟩
set_option maxRecDepth 100000 in
theorem uT327 {h:H} (m:Meets jie h) : ∃ h',runL (jab prog fuel 58) fuel (((flat (lpB (blkB ((((flat c4.body)).drop 16).headD .skip))))).drop 0) jie.E h=some ((.exit 2),jkl.E,h')/\Meets jkl h':=by
 obtain ⟨h1,r1,m1⟩:=jah (jaa 58).1 (jaa 58).2 uK329 m
 exact ⟨h1,(r1),m1⟩
set_option maxRecDepth 100000 in
theorem uB223 {h:H} (m:Meets jil h) : ∃ h',D (jab prog fuel 58) fuel ((((flat c4.body)).drop 16).headD .skip) jil.E h=some (.normal,jkl.E,h')/\Meets jkl h':=by
 obtain ⟨h1,r1,m1⟩:=uT224 (show Meets jil _ from ⟨m.nx,m.has,m.wf⟩)
 obtain ⟨h2,r2,m2⟩:=uT327 (show Meets jie _ from ⟨m1.nx,m1.has,m1.wf⟩)
 exact ⟨h2,D_of (c' := .block 2 (.loop [3,6,11,100,101] (lpB (blkB ((((flat c4.body)).drop 16).headD .skip))))) (by kernel_rfl) (block_exit (jai r1 (loop_exit r2))),m2⟩
set_option maxRecDepth 100000 in
theorem uT199 {h:H} (m:Meets jni h) : ∃ h',runL (jab prog fuel 58) fuel (((flat c4.body)).drop 0) jni.E h=some (.ret,jp1.E,h')/\Meets jp1 h':=by
 obtain ⟨h1,r1,m1⟩:=jah (jaa 58).1 (jaa 58).2 uK222 m
 obtain ⟨h2,r2,m2⟩:=uB223 m1
 obtain ⟨h3,r3,m3⟩:=jah (jaa 58).1 (jaa 58).2 uK333 m2
 exact ⟨h3,jak 16 r1 (jam (by kernel_rfl) r2 ((r3))),m3⟩
set_option maxRecDepth 100000 in
theorem uB192 {h:H} (m:Meets jkp h) : ∃ h',D (jab prog fuel 59) fuel ((((flat (blkB ((((flat (lpB (blkB ((((flat c3.body)).drop 4).headD .skip))))).drop 2).headD .skip)))).drop 3).headD .skip) jkp.E h=some (.normal,joB.E,h')/\Meets joB h':=by
 obtain ⟨h1,r1,m1⟩:=jaw uK197 (by kernel_rfl) (b:=h.nx) m
 obtain ⟨h2,r2,m2⟩:=uT199 (show Meets jni _ from ⟨m1.nx,m1.has,m1.wf⟩)
 have hc:=ja2 (d:=58) (f:=4) (fn:=c4) (args:=[(.agg [(.slice none 0 (.fix 0)),(.slice none 0 (.fix 0)),(.slice (some (5103,0)) 1 (.fix 1)),(.slice (some (5104,0)) 1 (.fix 1)),(.i (5))]),(.i (1)),(.i (3))]) (l:=[(.agg [(.slice (some (9645,0)) 5 (.grow 1)),(.slice (some (9647,0)) 11 (.grow 7)),(.ptr (some (5111,0))),(.slice (some (5165,0)) 2 (.grow 1))]),(.i (1))]) (by rfl) (by rfl) (by rfl) r2 m2 (by kernel_rfl)
 obtain ⟨h3,r3,m3⟩:=jaw uK339 (by kernel_rfl) (b:=h.nx) (show Meets joC _ from ⟨m2.nx,jaC m2.has (by kernel_rfl),m2.wf⟩)
 exact ⟨h3,D_of (c' := .region 0 (((rgO ((((flat (blkB ((((flat (lpB (blkB ((((flat c3.body)).drop 4).headD .skip))))).drop 2).headD .skip)))).drop 3).headD .skip))).take 6++jce (rgO ((((flat (blkB ((((flat (lpB (blkB ((((flat c3.body)).drop 4).headD .skip))))).drop 2).headD .skip)))).drop 3).headD .skip)) 6 :: ((rgO ((((flat (blkB ((((flat (lpB (blkB ((((flat c3.body)).drop 4).headD .skip))))).drop 2).headD .skip)))).drop 3).headD .skip))).drop 7) [1,2,3,5,6,7,9]) (by kernel_rfl) (jap (v:=(.tup [(.agg [(.slice (some (9645,0)) 5 (.grow 1)),(.slice (some (9647,0)) 11 (.grow 7)),(.ptr (some (5111,0))),(.slice (some (5165,0)) 2 (.grow 1))]),(.i (1))])) r1 (by kernel_rfl) (jao (by kernel_rfl) (by kernel_rfl) hc) (by kernel_rfl) (by kernel_rfl) r3 (by kernel_rfl)),⟨m3.nx,m3.has,m3.wf⟩⟩
set_option maxRecDepth 100000 in
theorem uT15 {h:H} (m:Meets uS12 h) : ∃ h',runL (jab prog fuel 59) fuel (((flat (blkB ((((flat (lpB (blkB ((((flat c3.body)).drop 4).headD .skip))))).drop 2).headD .skip)))).drop 0) uS12.E h=some (.normal,jkk.E,h')/\Meets jkk h':=by
 obtain ⟨h1,r1,m1⟩:=jah (jaa 59).1 (jaa 59).2 uK24 m
 obtain ⟨h2,r2,m2⟩:=uB25 m1
 obtain ⟨h3,r3,m3⟩:=uB129 m2
 obtain ⟨h4,r4,m4⟩:=uB192 m3
 obtain ⟨h5,r5,m5⟩:=jah (jaa 59).1 (jaa 59).2 uK341 m4
 exact ⟨h5,jak 1 r1 (jam (by kernel_rfl) r2 (jam (by kernel_rfl) r3 (jam (by kernel_rfl) r4 ((r5))))),m5⟩
set_option maxRecDepth 100000 in
theorem uB14 {h:H} (m:Meets uS12 h) : ∃ h',D (jab prog fuel 59) fuel ((((flat (lpB (blkB ((((flat c3.body)).drop 4).headD .skip))))).drop 2).headD .skip) uS12.E h=some (.normal,jkk.E,h')/\Meets jkk h':=by
 obtain ⟨h1,r1,m1⟩:=uT15 m
 exact ⟨h1,D_of (c' := .block 1 (blkB ((((flat (lpB (blkB ((((flat c3.body)).drop 4).headD .skip))))).drop 2).headD .skip))) (by kernel_rfl) (ja9 (jb2 r1)),m1⟩
set_option maxRecDepth 100000 in
theorem uT11 {h:H} (m:Meets uS8 h) : ∃ h',runL (jab prog fuel 59) fuel (((flat (lpB (blkB ((((flat c3.body)).drop 4).headD .skip))))).drop 0) uS8.E h=some (.normal,jid.E,h')/\Meets jid h':=by
 obtain ⟨h1,r1,m1⟩:=jah (jaa 59).1 (jaa 59).2 uK13 m
 obtain ⟨h2,r2,m2⟩:=uB14 m1
 obtain ⟨h3,r3,m3⟩:=jah (jaa 59).1 (jaa 59).2 uK343 m2
 exact ⟨h3,jak 2 r1 (jam (by kernel_rfl) r2 ((r3))),m3⟩
set_option maxRecDepth 100000 in
theorem uT348 {h:H} (m:Meets jkj h) : ∃ h',runL (jab prog fuel 59) fuel (((flat (blkB ((((flat (lpB (blkB ((((flat c3.body)).drop 4).headD .skip))))).drop 2).headD .skip)))).drop 0) jkj.E h=some (.normal,jki.E,h')/\Meets jki h':=by
 obtain ⟨h1,r1,m1⟩:=jah (jaa 59).1 (jaa 59).2 uK365 m
 obtain ⟨h2,r2,m2⟩:=jah (jaa 59).1 (jaa 59).2 uK367 m1
 exact ⟨h2,jak 3 r1 ((r2)),m2⟩
set_option maxRecDepth 100000 in
theorem uB347 {h:H} (m:Meets jkj h) : ∃ h',D (jab prog fuel 59) fuel ((((flat (lpB (blkB ((((flat c3.body)).drop 4).headD .skip))))).drop 2).headD .skip) jkj.E h=some (.normal,jki.E,h')/\Meets jki h':=by
 obtain ⟨h1,r1,m1⟩:=uT348 m
 exact ⟨h1,D_of (c' := .block 1 (blkB ((((flat (lpB (blkB ((((flat c3.body)).drop 4).headD .skip))))).drop 2).headD .skip))) (by kernel_rfl) (ja9 (jb2 r1)),m1⟩
set_option maxRecDepth 100000 in
theorem uT344 {h:H} (m:Meets jid h) : ∃ h',runL (jab prog fuel 59) fuel (((flat (lpB (blkB ((((flat c3.body)).drop 4).headD .skip))))).drop 0) jid.E h=some (.normal,jic.E,h')/\Meets jic h':=by
 obtain ⟨h1,r1,m1⟩:=jah (jaa 59).1 (jaa 59).2 uK346 m
 obtain ⟨h2,r2,m2⟩:=uB347 m1
 obtain ⟨h3,r3,m3⟩:=jah (jaa 59).1 (jaa 59).2 uK369 m2
 exact ⟨h3,jak 2 r1 (jam (by kernel_rfl) r2 ((r3))),m3⟩
set_option maxRecDepth 100000 in
theorem uT374 {h:H} (m:Meets jkh h) : ∃ h',runL (jab prog fuel 59) fuel (((flat (blkB ((((flat (lpB (blkB ((((flat c3.body)).drop 4).headD .skip))))).drop 2).headD .skip)))).drop 0) jkh.E h=some (.normal,jkg.E,h')/\Meets jkg h':=by
 obtain ⟨h1,r1,m1⟩:=jah (jaa 59).1 (jaa 59).2 uK391 m
 obtain ⟨h2,r2,m2⟩:=jah (jaa 59).1 (jaa 59).2 uK393 m1
 exact ⟨h2,jak 3 r1 ((r2)),m2⟩
set_option maxRecDepth 100000 in
theorem uB373 {h:H} (m:Meets jkh h) : ∃ h',D (jab prog fuel 59) fuel ((((flat (lpB (blkB ((((flat c3.body)).drop 4).headD .skip))))).drop 2).headD .skip) jkh.E h=some (.normal,jkg.E,h')/\Meets jkg h':=by
 obtain ⟨h1,r1,m1⟩:=uT374 m
 exact ⟨h1,D_of (c' := .block 1 (blkB ((((flat (lpB (blkB ((((flat c3.body)).drop 4).headD .skip))))).drop 2).headD .skip))) (by kernel_rfl) (ja9 (jb2 r1)),m1⟩
set_option maxRecDepth 100000 in
theorem uT370 {h:H} (m:Meets jic h) : ∃ h',runL (jab prog fuel 59) fuel (((flat (lpB (blkB ((((flat c3.body)).drop 4).headD .skip))))).drop 0) jic.E h=some (.normal,jib.E,h')/\Meets jib h':=by
 obtain ⟨h1,r1,m1⟩:=jah (jaa 59).1 (jaa 59).2 uK372 m
 obtain ⟨h2,r2,m2⟩:=uB373 m1
 obtain ⟨h3,r3,m3⟩:=jah (jaa 59).1 (jaa 59).2 uK395 m2
 exact ⟨h3,jak 2 r1 (jam (by kernel_rfl) r2 ((r3))),m3⟩
set_option maxRecDepth 100000 in
theorem uT434 {h:H} (m:Meets jia h) : ∃ h',runL (jab prog fuel 58) fuel (((flat (lpB (blkB ((((flat c4.body)).drop 16).headD .skip))))).drop 0) jia.E h=some (.normal,jhZ.E,h')/\Meets jhZ h':=by
 obtain ⟨h1,r1,m1⟩:=jah (jaa 58).1 (jaa 58).2 uK445 m
 exact ⟨h1,(r1),m1⟩
set_option maxRecDepth 100000 in
theorem uT446 {h:H} (m:Meets jhZ h) : ∃ h',runL (jab prog fuel 58) fuel (((flat (lpB (blkB ((((flat c4.body)).drop 16).headD .skip))))).drop 0) jhZ.E h=some (.normal,jhY.E,h')/\Meets jhY h':=by
 obtain ⟨h1,r1,m1⟩:=jah (jaa 58).1 (jaa 58).2 uK454 m
 exact ⟨h1,(r1),m1⟩
set_option maxRecDepth 100000 in
theorem uT455 {h:H} (m:Meets jhY h) : ∃ h',runL (jab prog fuel 58) fuel (((flat (lpB (blkB ((((flat c4.body)).drop 16).headD .skip))))).drop 0) jhY.E h=some (.normal,jhX.E,h')/\Meets jhX h':=by
 obtain ⟨h1,r1,m1⟩:=jah (jaa 58).1 (jaa 58).2 uK460 m
 exact ⟨h1,(r1),m1⟩
set_option maxRecDepth 100000 in
theorem uT461 {h:H} (m:Meets jhX h) : ∃ h',runL (jab prog fuel 58) fuel (((flat (lpB (blkB ((((flat c4.body)).drop 16).headD .skip))))).drop 0) jhX.E h=some (.normal,jhW.E,h')/\Meets jhW h':=by
 obtain ⟨h1,r1,m1⟩:=jah (jaa 58).1 (jaa 58).2 uK470 m
 exact ⟨h1,(r1),m1⟩
set_option maxRecDepth 100000 in
theorem uT471 {h:H} (m:Meets jhW h) : ∃ h',runL (jab prog fuel 58) fuel (((flat (lpB (blkB ((((flat c4.body)).drop 16).headD .skip))))).drop 0) jhW.E h=some ((.exit 2),jke.E,h')/\Meets jke h':=by
 obtain ⟨h1,r1,m1⟩:=jah (jaa 58).1 (jaa 58).2 uK473 m
 exact ⟨h1,(r1),m1⟩
set_option maxRecDepth 100000 in
theorem uB433 {h:H} (m:Meets jia h) : ∃ h',D (jab prog fuel 58) fuel ((((flat c4.body)).drop 16).headD .skip) jia.E h=some (.normal,jke.E,h')/\Meets jke h':=by
 obtain ⟨h1,r1,m1⟩:=uT434 (show Meets jia _ from ⟨m.nx,m.has,m.wf⟩)
 obtain ⟨h2,r2,m2⟩:=uT446 (show Meets jhZ _ from ⟨m1.nx,m1.has,m1.wf⟩)
 obtain ⟨h3,r3,m3⟩:=uT455 (show Meets jhY _ from ⟨m2.nx,m2.has,m2.wf⟩)
 obtain ⟨h4,r4,m4⟩:=uT461 (show Meets jhX _ from ⟨m3.nx,m3.has,m3.wf⟩)
 obtain ⟨h5,r5,m5⟩:=uT471 (show Meets jhW _ from ⟨m4.nx,m4.has,m4.wf⟩)
 exact ⟨h5,D_of (c' := .block 2 (.loop [3,6,11,100,101] (lpB (blkB ((((flat c4.body)).drop 16).headD .skip))))) (by kernel_rfl) (block_exit (jai r1 (jai r2 (jai r3 (jai r4 (loop_exit r5)))))),m5⟩
set_option maxRecDepth 100000 in
theorem uT410 {h:H} (m:Meets jnh h) : ∃ h',runL (jab prog fuel 58) fuel (((flat c4.body)).drop 0) jnh.E h=some (.ret,jpy.E,h')/\Meets jpy h':=by
 obtain ⟨h1,r1,m1⟩:=jah (jaa 58).1 (jaa 58).2 uK432 m
 obtain ⟨h2,r2,m2⟩:=uB433 m1
 obtain ⟨h3,r3,m3⟩:=jah (jaa 58).1 (jaa 58).2 uK477 m2
 exact ⟨h3,jak 16 r1 (jam (by kernel_rfl) r2 ((r3))),m3⟩
set_option maxRecDepth 100000 in
theorem uB406 {h:H} (m:Meets jmb h) : ∃ h',D (jab prog fuel 59) fuel ((((flat (blkB ((((flat (lpB (blkB ((((flat c3.body)).drop 4).headD .skip))))).drop 2).headD .skip)))).drop 1).headD .skip) jmb.E h=some (.normal,jkd.E,h')/\Meets jkd h':=by
 obtain ⟨h1,r1,m1⟩:=jaw uK408 (by kernel_rfl) (b:=h.nx) m
 obtain ⟨h2,r2,m2⟩:=uT410 (show Meets jnh _ from ⟨m1.nx,m1.has,m1.wf⟩)
 have hc:=ja2 (d:=58) (f:=4) (fn:=c4) (args:=[(.agg [(.slice none 0 (.fix 0)),(.slice none 0 (.fix 0)),(.slice (some (13092,0)) 3 (.fix 3)),(.slice (some (13093,0)) 4 (.fix 4)),(.i (20))]),(.i (4)),(.i (3))]) (l:=[(.agg [(.slice (some (15649,0)) 15 (.grow 1)),(.slice (some (15651,0)) 16 (.grow 7)),(.ptr (some (13101,0))),(.slice (some (13159,0)) 2 (.grow 1))]),(.i (1))]) (by rfl) (by rfl) (by rfl) r2 m2 (by kernel_rfl)
 obtain ⟨h3,r3,m3⟩:=jaw uK483 (by kernel_rfl) (b:=h.nx) (show Meets joA _ from ⟨m2.nx,jaC m2.has (by kernel_rfl),m2.wf⟩)
 exact ⟨h3,D_of (c' := .region 0 (((rgO ((((flat (blkB ((((flat (lpB (blkB ((((flat c3.body)).drop 4).headD .skip))))).drop 2).headD .skip)))).drop 1).headD .skip))).take 2++jce (rgO ((((flat (blkB ((((flat (lpB (blkB ((((flat c3.body)).drop 4).headD .skip))))).drop 2).headD .skip)))).drop 1).headD .skip)) 2 :: ((rgO ((((flat (blkB ((((flat (lpB (blkB ((((flat c3.body)).drop 4).headD .skip))))).drop 2).headD .skip)))).drop 1).headD .skip))).drop 3) [1,2,3,5,6]) (by kernel_rfl) (jap (v:=(.tup [(.agg [(.slice (some (15649,0)) 15 (.grow 1)),(.slice (some (15651,0)) 16 (.grow 7)),(.ptr (some (13101,0))),(.slice (some (13159,0)) 2 (.grow 1))]),(.i (1))])) r1 (by kernel_rfl) (jao (by kernel_rfl) (by kernel_rfl) hc) (by kernel_rfl) (by kernel_rfl) r3 (by kernel_rfl)),⟨m3.nx,m3.has,m3.wf⟩⟩
set_option maxRecDepth 100000 in
theorem uT512 {h:H} (m:Meets jhV h) : ∃ h',runL (jab prog fuel 58) fuel (((flat (lpB (blkB ((((flat c4.body)).drop 16).headD .skip))))).drop 0) jhV.E h=some (.normal,jhU.E,h')/\Meets jhU h':=by
 obtain ⟨h1,r1,m1⟩:=jah (jaa 58).1 (jaa 58).2 uK518 m
 exact ⟨h1,(r1),m1⟩
set_option maxRecDepth 100000 in
theorem uT519 {h:H} (m:Meets jhU h) : ∃ h',runL (jab prog fuel 58) fuel (((flat (lpB (blkB ((((flat c4.body)).drop 16).headD .skip))))).drop 0) jhU.E h=some (.normal,jhT.E,h')/\Meets jhT h':=by
 obtain ⟨h1,r1,m1⟩:=jah (jaa 58).1 (jaa 58).2 uK524 m
 exact ⟨h1,(r1),m1⟩
set_option maxRecDepth 100000 in
theorem uT525 {h:H} (m:Meets jhT h) : ∃ h',runL (jab prog fuel 58) fuel (((flat (lpB (blkB ((((flat c4.body)).drop 16).headD .skip))))).drop 0) jhT.E h=some ((.exit 2),jkc.E,h')/\Meets jkc h':=by
 obtain ⟨h1,r1,m1⟩:=jah (jaa 58).1 (jaa 58).2 uK527 m
 exact ⟨h1,(r1),m1⟩
set_option maxRecDepth 100000 in
theorem uB511 {h:H} (m:Meets jhV h) : ∃ h',D (jab prog fuel 58) fuel ((((flat c4.body)).drop 16).headD .skip) jhV.E h=some (.normal,jkc.E,h')/\Meets jkc h':=by
 obtain ⟨h1,r1,m1⟩:=uT512 (show Meets jhV _ from ⟨m.nx,m.has,m.wf⟩)
 obtain ⟨h2,r2,m2⟩:=uT519 (show Meets jhU _ from ⟨m1.nx,m1.has,m1.wf⟩)
 obtain ⟨h3,r3,m3⟩:=uT525 (show Meets jhT _ from ⟨m2.nx,m2.has,m2.wf⟩)
 exact ⟨h3,D_of (c' := .block 2 (.loop [3,6,11,100,101] (lpB (blkB ((((flat c4.body)).drop 16).headD .skip))))) (by kernel_rfl) (block_exit (jai r1 (jai r2 (loop_exit r3)))),m3⟩
set_option maxRecDepth 100000 in
theorem uT489 {h:H} (m:Meets jng h) : ∃ h',runL (jab prog fuel 58) fuel (((flat c4.body)).drop 0) jng.E h=some (.ret,jpx.E,h')/\Meets jpx h':=by
 obtain ⟨h1,r1,m1⟩:=jah (jaa 58).1 (jaa 58).2 uK510 m
 obtain ⟨h2,r2,m2⟩:=uB511 m1
 obtain ⟨h3,r3,m3⟩:=jah (jaa 58).1 (jaa 58).2 uK531 m2
 exact ⟨h3,jak 16 r1 (jam (by kernel_rfl) r2 ((r3))),m3⟩
set_option maxRecDepth 100000 in
theorem uB484 {h:H} (m:Meets jkd h) : ∃ h',D (jab prog fuel 59) fuel ((((flat (blkB ((((flat (lpB (blkB ((((flat c3.body)).drop 4).headD .skip))))).drop 2).headD .skip)))).drop 2).headD .skip) jkd.E h=some (.normal,jkb.E,h')/\Meets jkb h':=by
 obtain ⟨h1,r1,m1⟩:=jaw uK487 (by kernel_rfl) (b:=h.nx) m
 obtain ⟨h2,r2,m2⟩:=uT489 (show Meets jng _ from ⟨m1.nx,m1.has,m1.wf⟩)
 have hc:=ja2 (d:=58) (f:=4) (fn:=c4) (args:=[(.agg [(.slice none 0 (.fix 0)),(.slice none 0 (.fix 0)),(.slice (some (15653,0)) 1 (.fix 1)),(.slice (some (15654,0)) 2 (.fix 2)),(.i (5))]),(.i (4)),(.i (3))]) (l:=[(.agg [(.slice (some (16818,0)) 7 (.grow 1)),(.slice (some (16820,0)) 4 (.grow 7)),(.ptr (some (15661,0))),(.slice (some (15719,0)) 2 (.grow 1))]),(.i (1))]) (by rfl) (by rfl) (by rfl) r2 m2 (by kernel_rfl)
 obtain ⟨h3,r3,m3⟩:=jaw uK537 (by kernel_rfl) (b:=h.nx) (show Meets jo9 _ from ⟨m2.nx,jaC m2.has (by kernel_rfl),m2.wf⟩)
 exact ⟨h3,D_of (c' := .region 0 (((rgO ((((flat (blkB ((((flat (lpB (blkB ((((flat c3.body)).drop 4).headD .skip))))).drop 2).headD .skip)))).drop 2).headD .skip))).take 6++jce (rgO ((((flat (blkB ((((flat (lpB (blkB ((((flat c3.body)).drop 4).headD .skip))))).drop 2).headD .skip)))).drop 2).headD .skip)) 6 :: ((rgO ((((flat (blkB ((((flat (lpB (blkB ((((flat c3.body)).drop 4).headD .skip))))).drop 2).headD .skip)))).drop 2).headD .skip))).drop 7) [1,2,3,5,6,7]) (by kernel_rfl) (jap (v:=(.tup [(.agg [(.slice (some (16818,0)) 7 (.grow 1)),(.slice (some (16820,0)) 4 (.grow 7)),(.ptr (some (15661,0))),(.slice (some (15719,0)) 2 (.grow 1))]),(.i (1))])) r1 (by kernel_rfl) (jao (by kernel_rfl) (by kernel_rfl) hc) (by kernel_rfl) (by kernel_rfl) r3 (by kernel_rfl)),⟨m3.nx,m3.has,m3.wf⟩⟩
set_option maxRecDepth 100000 in
theorem uT587 {h:H} (m:Meets jhR h) : ∃ h',runL (jab prog fuel 56) fuel (((flat (lpB (blkB ((((flat c24.body)).drop 2).headD .skip))))).drop 0) jhR.E h=some (.normal,jhQ.E,h')/\Meets jhQ h':=by
 obtain ⟨h1,r1,m1⟩:=jah (jaa 56).1 (jaa 56).2 uK595 m
 exact ⟨h1,(r1),m1⟩
set_option maxRecDepth 100000 in
theorem uT596 {h:H} (m:Meets jhQ h) : ∃ h',runL (jab prog fuel 56) fuel (((flat (lpB (blkB ((((flat c24.body)).drop 2).headD .skip))))).drop 0) jhQ.E h=some (.normal,jhP.E,h')/\Meets jhP h':=by
 obtain ⟨h1,r1,m1⟩:=jah (jaa 56).1 (jaa 56).2 uK603 m
 exact ⟨h1,(r1),m1⟩
set_option maxRecDepth 100000 in
theorem uT604 {h:H} (m:Meets jhP h) : ∃ h',runL (jab prog fuel 56) fuel (((flat (lpB (blkB ((((flat c24.body)).drop 2).headD .skip))))).drop 0) jhP.E h=some (.normal,jhO.E,h')/\Meets jhO h':=by
 obtain ⟨h1,r1,m1⟩:=jah (jaa 56).1 (jaa 56).2 uK611 m
 exact ⟨h1,(r1),m1⟩
set_option maxRecDepth 100000 in
theorem uT612 {h:H} (m:Meets jhO h) : ∃ h',runL (jab prog fuel 56) fuel (((flat (lpB (blkB ((((flat c24.body)).drop 2).headD .skip))))).drop 0) jhO.E h=some (.normal,jhN.E,h')/\Meets jhN h':=by
 obtain ⟨h1,r1,m1⟩:=jah (jaa 56).1 (jaa 56).2 uK619 m
 exact ⟨h1,(r1),m1⟩
set_option maxRecDepth 100000 in
theorem uT620 {h:H} (m:Meets jhN h) : ∃ h',runL (jab prog fuel 56) fuel (((flat (lpB (blkB ((((flat c24.body)).drop 2).headD .skip))))).drop 0) jhN.E h=some (.normal,jhM.E,h')/\Meets jhM h':=by
 obtain ⟨h1,r1,m1⟩:=jah (jaa 56).1 (jaa 56).2 uK627 m
 exact ⟨h1,(r1),m1⟩
set_option maxRecDepth 100000 in
theorem uT628 {h:H} (m:Meets jhM h) : ∃ h',runL (jab prog fuel 56) fuel (((flat (lpB (blkB ((((flat c24.body)).drop 2).headD .skip))))).drop 0) jhM.E h=some (.ret,jjZ.E,h')/\Meets jjZ h':=by
 obtain ⟨h1,r1,m1⟩:=jah (jaa 56).1 (jaa 56).2 uK630 m
 exact ⟨h1,(r1),m1⟩
set_option maxRecDepth 100000 in
theorem uB586 {h:H} (m:Meets jhR h) : ∃ h',D (jab prog fuel 56) fuel ((((flat c24.body)).drop 2).headD .skip) jhR.E h=some (.ret,jjZ.E,h')/\Meets jjZ h':=by
 obtain ⟨h1,r1,m1⟩:=uT587 (show Meets jhR _ from ⟨m.nx,m.has,m.wf⟩)
 obtain ⟨h2,r2,m2⟩:=uT596 (show Meets jhQ _ from ⟨m1.nx,m1.has,m1.wf⟩)
 obtain ⟨h3,r3,m3⟩:=uT604 (show Meets jhP _ from ⟨m2.nx,m2.has,m2.wf⟩)
 obtain ⟨h4,r4,m4⟩:=uT612 (show Meets jhO _ from ⟨m3.nx,m3.has,m3.wf⟩)
 obtain ⟨h5,r5,m5⟩:=uT620 (show Meets jhN _ from ⟨m4.nx,m4.has,m4.wf⟩)
 obtain ⟨h6,r6,m6⟩:=uT628 (show Meets jhM _ from ⟨m5.nx,m5.has,m5.wf⟩)
 exact ⟨h6,D_of (c' := .block 0 (.loop [0,1,2,8] (lpB (blkB ((((flat c24.body)).drop 2).headD .skip))))) (by kernel_rfl) (block_ret (jai r1 (jai r2 (jai r3 (jai r4 (jai r5 (loop_ret r6))))))),m6⟩
set_option maxRecDepth 100000 in
theorem uT583 {h:H} (m:Meets jf9 h) : ∃ h',runL (jab prog fuel 56) fuel (((flat c24.body)).drop 0) jf9.E h=some (.ret,jjZ.E,h')/\Meets jjZ h':=by
 obtain ⟨h1,r1,m1⟩:=jah (jaa 56).1 (jaa 56).2 uK585 m
 obtain ⟨h2,r2,m2⟩:=uB586 m1
 exact ⟨h2,jak 2 r1 ((je2 (by kernel_rfl) r2 (by rfl))),m2⟩
set_option maxRecDepth 100000 in
theorem uB580 {h:H} (m:Meets jlZ h) : ∃ h',D (jab prog fuel 57) fuel ((((flat c8.body)).drop 2).headD .skip) jlZ.E h=some (.normal,jo7.E,h')/\Meets jo7 h':=by
 obtain ⟨h1,r1,m1⟩:=jaw uK582 (by kernel_rfl) (b:=h.nx) m
 obtain ⟨h2,r2,m2⟩:=uT583 (show Meets jf9 _ from ⟨m1.nx,m1.has,m1.wf⟩)
 have hc:=ja2 (d:=56) (f:=24) (fn:=c24) (args:=[(.ptr (some (16884,0))),(.i (0)),(.i (5))]) (l:=[(.i (3)),(.i (0))]) (by rfl) (by rfl) (by rfl) r2 m2 (by kernel_rfl)
 obtain ⟨h3,r3,m3⟩:=jaw uK634 (by kernel_rfl) (b:=h.nx) (show Meets jo8 _ from ⟨m2.nx,jaC m2.has (by kernel_rfl),m2.wf⟩)
 exact ⟨h3,D_of (c' := .region 0 (((rgO ((((flat c8.body)).drop 2).headD .skip))).take 3++jce (rgO ((((flat c8.body)).drop 2).headD .skip)) 3 :: ((rgO ((((flat c8.body)).drop 2).headD .skip))).drop 4) [0,8,9]) (by kernel_rfl) (jap (v:=(.tup [(.i (3)),(.i (0))])) r1 (by kernel_rfl) (jao (by kernel_rfl) (by kernel_rfl) hc) (by kernel_rfl) (by kernel_rfl) r3 (by kernel_rfl)),⟨m3.nx,m3.has,m3.wf⟩⟩
set_option maxRecDepth 100000 in
theorem uT577 {h:H} (m:Meets jf9 h) : ∃ h',runL (jab prog fuel 57) fuel (((flat c8.body)).drop 0) jf9.E h=some (.ret,jpw.E,h')/\Meets jpw h':=by
 obtain ⟨h1,r1,m1⟩:=jah (jaa 57).1 (jaa 57).2 uK579 m
 obtain ⟨h2,r2,m2⟩:=uB580 m1
 obtain ⟨h3,r3,m3⟩:=jah (jaa 57).1 (jaa 57).2 uK638 m2
 exact ⟨h3,jak 2 r1 (jam (by kernel_rfl) r2 ((r3))),m3⟩
set_option maxRecDepth 100000 in
theorem uB573 {h:H} (m:Meets jma h) : ∃ h',D (jab prog fuel 58) fuel ((((flat (blkB ((((flat (lpB (blkB ((((flat c4.body)).drop 16).headD .skip))))).drop 2).headD .skip)))).drop 1).headD .skip) jma.E h=some (.normal,jo5.E,h')/\Meets jo5 h':=by
 obtain ⟨h1,r1,m1⟩:=jaw uK575 (by kernel_rfl) (b:=h.nx) m
 obtain ⟨h2,r2,m2⟩:=uT577 (show Meets jf9 _ from ⟨m1.nx,m1.has,m1.wf⟩)
 have hc:=ja2 (d:=57) (f:=8) (fn:=c8) (args:=[(.ptr (some (16884,0))),(.i (0)),(.i (5))]) (l:=[(.i (3)),(.i (0))]) (by rfl) (by rfl) (by rfl) r2 m2 (by kernel_rfl)
 obtain ⟨h3,r3,m3⟩:=jaw uK642 (by kernel_rfl) (b:=h.nx) (show Meets jo6 _ from ⟨m2.nx,jaC m2.has (by kernel_rfl),m2.wf⟩)
 exact ⟨h3,D_of (c' := .region 0 (((rgO ((((flat (blkB ((((flat (lpB (blkB ((((flat c4.body)).drop 16).headD .skip))))).drop 2).headD .skip)))).drop 1).headD .skip))).take 8++jce (rgO ((((flat (blkB ((((flat (lpB (blkB ((((flat c4.body)).drop 16).headD .skip))))).drop 2).headD .skip)))).drop 1).headD .skip)) 8 :: ((rgO ((((flat (blkB ((((flat (lpB (blkB ((((flat c4.body)).drop 16).headD .skip))))).drop 2).headD .skip)))).drop 1).headD .skip))).drop 9) [3,6,11,17,18,100,101]) (by kernel_rfl) (jap (v:=(.tup [(.i (3)),(.i (0))])) r1 (by kernel_rfl) (jao (by kernel_rfl) (by kernel_rfl) hc) (by kernel_rfl) (by kernel_rfl) r3 (by kernel_rfl)),⟨m3.nx,m3.has,m3.wf⟩⟩
set_option maxRecDepth 100000 in
theorem uT570 {h:H} (m:Meets jka h) : ∃ h',runL (jab prog fuel 58) fuel (((flat (blkB ((((flat (lpB (blkB ((((flat c4.body)).drop 16).headD .skip))))).drop 2).headD .skip)))).drop 0) jka.E h=some (.normal,jjY.E,h')/\Meets jjY h':=by
 obtain ⟨h1,r1,m1⟩:=jah (jaa 58).1 (jaa 58).2 uK572 m
 obtain ⟨h2,r2,m2⟩:=uB573 m1
 obtain ⟨h3,r3,m3⟩:=jah (jaa 58).1 (jaa 58).2 uK646 m2
 exact ⟨h3,jak 1 r1 (jam (by kernel_rfl) r2 ((r3))),m3⟩
set_option maxRecDepth 100000 in
theorem uB569 {h:H} (m:Meets jka h) : ∃ h',D (jab prog fuel 58) fuel ((((flat (lpB (blkB ((((flat c4.body)).drop 16).headD .skip))))).drop 2).headD .skip) jka.E h=some (.normal,jjY.E,h')/\Meets jjY h':=by
 obtain ⟨h1,r1,m1⟩:=uT570 m
 exact ⟨h1,D_of (c' := .block 3 (blkB ((((flat (lpB (blkB ((((flat c4.body)).drop 16).headD .skip))))).drop 2).headD .skip))) (by kernel_rfl) (ja9 (jb2 r1)),m1⟩
set_option maxRecDepth 100000 in
theorem uT566 {h:H} (m:Meets jhS h) : ∃ h',runL (jab prog fuel 58) fuel (((flat (lpB (blkB ((((flat c4.body)).drop 16).headD .skip))))).drop 0) jhS.E h=some (.normal,jhL.E,h')/\Meets jhL h':=by
 obtain ⟨h1,r1,m1⟩:=jah (jaa 58).1 (jaa 58).2 uK568 m
 obtain ⟨h2,r2,m2⟩:=uB569 m1
 obtain ⟨h3,r3,m3⟩:=jah (jaa 58).1 (jaa 58).2 uK648 m2
 exact ⟨h3,jak 2 r1 (jam (by kernel_rfl) r2 ((r3))),m3⟩
set_option maxRecDepth 100000 in
theorem uT649 {h:H} (m:Meets jhL h) : ∃ h',runL (jab prog fuel 58) fuel (((flat (lpB (blkB ((((flat c4.body)).drop 16).headD .skip))))).drop 0) jhL.E h=some ((.exit 2),jjX.E,h')/\Meets jjX h':=by
 obtain ⟨h1,r1,m1⟩:=jah (jaa 58).1 (jaa 58).2 uK651 m
 exact ⟨h1,(r1),m1⟩
set_option maxRecDepth 100000 in
theorem uB565 {h:H} (m:Meets jhS h) : ∃ h',D (jab prog fuel 58) fuel ((((flat c4.body)).drop 16).headD .skip) jhS.E h=some (.normal,jjX.E,h')/\Meets jjX h':=by
 obtain ⟨h1,r1,m1⟩:=uT566 (show Meets jhS _ from ⟨m.nx,m.has,m.wf⟩)
 obtain ⟨h2,r2,m2⟩:=uT649 (show Meets jhL _ from ⟨m1.nx,m1.has,m1.wf⟩)
 exact ⟨h2,D_of (c' := .block 2 (.loop [3,6,11,100,101] (lpB (blkB ((((flat c4.body)).drop 16).headD .skip))))) (by kernel_rfl) (block_exit (jai r1 (loop_exit r2))),m2⟩
set_option maxRecDepth 100000 in
theorem uT543 {h:H} (m:Meets jnf h) : ∃ h',runL (jab prog fuel 58) fuel (((flat c4.body)).drop 0) jnf.E h=some (.ret,jpv.E,h')/\Meets jpv h':=by
 obtain ⟨h1,r1,m1⟩:=jah (jaa 58).1 (jaa 58).2 uK564 m
 obtain ⟨h2,r2,m2⟩:=uB565 m1
 obtain ⟨h3,r3,m3⟩:=jah (jaa 58).1 (jaa 58).2 uK655 m2
 exact ⟨h3,jak 16 r1 (jam (by kernel_rfl) r2 ((r3))),m3⟩
set_option maxRecDepth 100000 in
theorem uB538 {h:H} (m:Meets jkb h) : ∃ h',D (jab prog fuel 59) fuel ((((flat (blkB ((((flat (lpB (blkB ((((flat c3.body)).drop 4).headD .skip))))).drop 2).headD .skip)))).drop 3).headD .skip) jkb.E h=some (.normal,jo3.E,h')/\Meets jo3 h':=by
 obtain ⟨h1,r1,m1⟩:=jaw uK541 (by kernel_rfl) (b:=h.nx) m
 obtain ⟨h2,r2,m2⟩:=uT543 (show Meets jnf _ from ⟨m1.nx,m1.has,m1.wf⟩)
 have hc:=ja2 (d:=58) (f:=4) (fn:=c4) (args:=[(.agg [(.slice none 0 (.fix 0)),(.slice none 0 (.fix 0)),(.slice (some (16822,0)) 1 (.fix 1)),(.slice (some (16823,0)) 1 (.fix 1)),(.i (5))]),(.i (4)),(.i (3))]) (l:=[(.agg [(.slice (some (19705,0)) 5 (.grow 1)),(.slice (some (19707,0)) 11 (.grow 7)),(.ptr (some (16830,0))),(.slice (some (16888,0)) 2 (.grow 1))]),(.i (1))]) (by rfl) (by rfl) (by rfl) r2 m2 (by kernel_rfl)
 obtain ⟨h3,r3,m3⟩:=jaw uK661 (by kernel_rfl) (b:=h.nx) (show Meets jo4 _ from ⟨m2.nx,jaC m2.has (by kernel_rfl),m2.wf⟩)
 exact ⟨h3,D_of (c' := .region 0 (((rgO ((((flat (blkB ((((flat (lpB (blkB ((((flat c3.body)).drop 4).headD .skip))))).drop 2).headD .skip)))).drop 3).headD .skip))).take 6++jce (rgO ((((flat (blkB ((((flat (lpB (blkB ((((flat c3.body)).drop 4).headD .skip))))).drop 2).headD .skip)))).drop 3).headD .skip)) 6 :: ((rgO ((((flat (blkB ((((flat (lpB (blkB ((((flat c3.body)).drop 4).headD .skip))))).drop 2).headD .skip)))).drop 3).headD .skip))).drop 7) [1,2,3,5,6,7,9]) (by kernel_rfl) (jap (v:=(.tup [(.agg [(.slice (some (19705,0)) 5 (.grow 1)),(.slice (some (19707,0)) 11 (.grow 7)),(.ptr (some (16830,0))),(.slice (some (16888,0)) 2 (.grow 1))]),(.i (1))])) r1 (by kernel_rfl) (jao (by kernel_rfl) (by kernel_rfl) hc) (by kernel_rfl) (by kernel_rfl) r3 (by kernel_rfl)),⟨m3.nx,m3.has,m3.wf⟩⟩
set_option maxRecDepth 100000 in
theorem uT400 {h:H} (m:Meets jkf h) : ∃ h',runL (jab prog fuel 59) fuel (((flat (blkB ((((flat (lpB (blkB ((((flat c3.body)).drop 4).headD .skip))))).drop 2).headD .skip)))).drop 0) jkf.E h=some (.normal,jjW.E,h')/\Meets jjW h':=by
 obtain ⟨h1,r1,m1⟩:=jah (jaa 59).1 (jaa 59).2 uK405 m
 obtain ⟨h2,r2,m2⟩:=uB406 m1
 obtain ⟨h3,r3,m3⟩:=uB484 m2
 obtain ⟨h4,r4,m4⟩:=uB538 m3
 obtain ⟨h5,r5,m5⟩:=jah (jaa 59).1 (jaa 59).2 uK663 m4
 exact ⟨h5,jak 1 r1 (jam (by kernel_rfl) r2 (jam (by kernel_rfl) r3 (jam (by kernel_rfl) r4 ((r5))))),m5⟩
set_option maxRecDepth 100000 in
theorem uB399 {h:H} (m:Meets jkf h) : ∃ h',D (jab prog fuel 59) fuel ((((flat (lpB (blkB ((((flat c3.body)).drop 4).headD .skip))))).drop 2).headD .skip) jkf.E h=some (.normal,jjW.E,h')/\Meets jjW h':=by
 obtain ⟨h1,r1,m1⟩:=uT400 m
 exact ⟨h1,D_of (c' := .block 1 (blkB ((((flat (lpB (blkB ((((flat c3.body)).drop 4).headD .skip))))).drop 2).headD .skip))) (by kernel_rfl) (ja9 (jb2 r1)),m1⟩
set_option maxRecDepth 100000 in
theorem uT396 {h:H} (m:Meets jib h) : ∃ h',runL (jab prog fuel 59) fuel (((flat (lpB (blkB ((((flat c3.body)).drop 4).headD .skip))))).drop 0) jib.E h=some (.normal,jhK.E,h')/\Meets jhK h':=by
 obtain ⟨h1,r1,m1⟩:=jah (jaa 59).1 (jaa 59).2 uK398 m
 obtain ⟨h2,r2,m2⟩:=uB399 m1
 obtain ⟨h3,r3,m3⟩:=jah (jaa 59).1 (jaa 59).2 uK665 m2
 exact ⟨h3,jak 2 r1 (jam (by kernel_rfl) r2 ((r3))),m3⟩
set_option maxRecDepth 100000 in
theorem uT666 {h:H} (m:Meets jhK h) : ∃ h',runL (jab prog fuel 59) fuel (((flat (lpB (blkB ((((flat c3.body)).drop 4).headD .skip))))).drop 0) jhK.E h=some ((.exit 0),jjV.E,h')/\Meets jjV h':=by
 obtain ⟨h1,r1,m1⟩:=jah (jaa 59).1 (jaa 59).2 uK668 m
 exact ⟨h1,(r1),m1⟩
set_option maxRecDepth 100000 in
theorem uB10 {h:H} (m:Meets uS8 h) : ∃ h',D (jab prog fuel 59) fuel ((((flat c3.body)).drop 4).headD .skip) uS8.E h=some (.normal,jjV.E,h')/\Meets jjV h':=by
 obtain ⟨h1,r1,m1⟩:=uT11 (show Meets uS8 _ from ⟨m.nx,m.has,m.wf⟩)
 obtain ⟨h2,r2,m2⟩:=uT344 (show Meets jid _ from ⟨m1.nx,m1.has,m1.wf⟩)
 obtain ⟨h3,r3,m3⟩:=uT370 (show Meets jic _ from ⟨m2.nx,m2.has,m2.wf⟩)
 obtain ⟨h4,r4,m4⟩:=uT396 (show Meets jib _ from ⟨m3.nx,m3.has,m3.wf⟩)
 obtain ⟨h5,r5,m5⟩:=uT666 (show Meets jhK _ from ⟨m4.nx,m4.has,m4.wf⟩)
 exact ⟨h5,D_of (c' := .block 0 (.loop [1,2,3] (lpB (blkB ((((flat c3.body)).drop 4).headD .skip))))) (by kernel_rfl) (block_exit (jai r1 (jai r2 (jai r3 (jai r4 (loop_exit r5)))))),m5⟩
set_option maxRecDepth 100000 in
theorem uT766 {h:H} (m:Meets jnc h) : ∃ h',runL (jab prog fuel 54) fuel (((flat c59.body)).drop 0) jnc.E h=some (.ret,jps.E,h')/\Meets jps h':=by
 obtain ⟨h1,r1,m1⟩:=jah (jaa 54).1 (jaa 54).2 uK771 m
 obtain ⟨h2,r2,m2⟩:=jah (jaa 54).1 (jaa 54).2 uK779 m1
 obtain ⟨h3,r3,m3⟩:=jah (jaa 54).1 (jaa 54).2 uK793 m2
 exact ⟨h3,jak 3 r1 (jak 1 r2 ((r3))),m3⟩
set_option maxRecDepth 100000 in
theorem uB762 {h:H} (m:Meets jlV h) : ∃ h',D (jab prog fuel 55) fuel ((((flat (blkB ((((flat (lpB (blkB ((((flat c24.body)).drop 2).headD .skip))))).drop 0).headD .skip)))).drop 2).headD .skip) jlV.E h=some (.normal,jo1.E,h')/\Meets jo1 h':=by
 obtain ⟨h1,r1,m1⟩:=jaw uK764 (by kernel_rfl) (b:=h.nx) m
 obtain ⟨h2,r2,m2⟩:=uT766 (show Meets jnc _ from ⟨m1.nx,m1.has,m1.wf⟩)
 have hc:=ja2 (d:=54) (f:=59) (fn:=c59) (args:=[(.ptr (some (20055,0))),(.i (0))]) (l:=[(.bool true),(.i (-1)),(.i (0))]) (by rfl) (by rfl) (by rfl) r2 m2 (by kernel_rfl)
 obtain ⟨h3,r3,m3⟩:=jaw uK798 (by kernel_rfl) (b:=h.nx) (show Meets jo2 _ from ⟨m2.nx,jaC m2.has (by kernel_rfl),m2.wf⟩)
 exact ⟨h3,D_of (c' := .region 0 (((rgO ((((flat (blkB ((((flat (lpB (blkB ((((flat c24.body)).drop 2).headD .skip))))).drop 0).headD .skip)))).drop 2).headD .skip))).take 2++jce (rgO ((((flat (blkB ((((flat (lpB (blkB ((((flat c24.body)).drop 2).headD .skip))))).drop 0).headD .skip)))).drop 2).headD .skip)) 2 :: ((rgO ((((flat (blkB ((((flat (lpB (blkB ((((flat c24.body)).drop 2).headD .skip))))).drop 0).headD .skip)))).drop 2).headD .skip))).drop 3) [0,1,2,8,10,11]) (by kernel_rfl) (jap (v:=(.tup [(.bool true),(.i (-1)),(.i (0))])) r1 (by kernel_rfl) (jao (by kernel_rfl) (by kernel_rfl) hc) (by kernel_rfl) (by kernel_rfl) r3 (by kernel_rfl)),⟨m3.nx,m3.has,m3.wf⟩⟩
set_option maxRecDepth 100000 in
theorem uT756 {h:H} (m:Meets jea h) : ∃ h',runL (jab prog fuel 55) fuel (((flat (blkB ((((flat (lpB (blkB ((((flat c24.body)).drop 2).headD .skip))))).drop 0).headD .skip)))).drop 0) jea.E h=some (.normal,jjT.E,h')/\Meets jjT h':=by
 obtain ⟨h1,r1,m1⟩:=jah (jaa 55).1 (jaa 55).2 uK761 m
 obtain ⟨h2,r2,m2⟩:=uB762 m1
 obtain ⟨h3,r3,m3⟩:=jah (jaa 55).1 (jaa 55).2 uK800 m2
 exact ⟨h3,jak 2 r1 (jam (by kernel_rfl) r2 ((r3))),m3⟩
set_option maxRecDepth 100000 in
theorem uB755 {h:H} (m:Meets jea h) : ∃ h',D (jab prog fuel 55) fuel ((((flat (lpB (blkB ((((flat c24.body)).drop 2).headD .skip))))).drop 0).headD .skip) jea.E h=some (.normal,jjT.E,h')/\Meets jjT h':=by
 obtain ⟨h1,r1,m1⟩:=uT756 m
 exact ⟨h1,D_of (c' := .block 1 (blkB ((((flat (lpB (blkB ((((flat c24.body)).drop 2).headD .skip))))).drop 0).headD .skip))) (by kernel_rfl) (ja9 (jb2 r1)),m1⟩
set_option maxRecDepth 100000 in
theorem uT754 {h:H} (m:Meets jea h) : ∃ h',runL (jab prog fuel 55) fuel (((flat (lpB (blkB ((((flat c24.body)).drop 2).headD .skip))))).drop 0) jea.E h=some (.normal,jhH.E,h')/\Meets jhH h':=by
 obtain ⟨h1,r1,m1⟩:=uB755 m
 obtain ⟨h2,r2,m2⟩:=jah (jaa 55).1 (jaa 55).2 uK802 m1
 exact ⟨h2,jam (by kernel_rfl) r1 ((r2)),m2⟩
set_option maxRecDepth 100000 in
theorem uT803 {h:H} (m:Meets jhH h) : ∃ h',runL (jab prog fuel 55) fuel (((flat (lpB (blkB ((((flat c24.body)).drop 2).headD .skip))))).drop 0) jhH.E h=some (.ret,jjS.E,h')/\Meets jjS h':=by
 obtain ⟨h1,r1,m1⟩:=jah (jaa 55).1 (jaa 55).2 uK805 m
 exact ⟨h1,(r1),m1⟩
set_option maxRecDepth 100000 in
theorem uB753 {h:H} (m:Meets jea h) : ∃ h',D (jab prog fuel 55) fuel ((((flat c24.body)).drop 2).headD .skip) jea.E h=some (.ret,jjS.E,h')/\Meets jjS h':=by
 obtain ⟨h1,r1,m1⟩:=uT754 (show Meets jea _ from ⟨m.nx,m.has,m.wf⟩)
 obtain ⟨h2,r2,m2⟩:=uT803 (show Meets jhH _ from ⟨m1.nx,m1.has,m1.wf⟩)
 exact ⟨h2,D_of (c' := .block 0 (.loop [0,1,2,8] (lpB (blkB ((((flat c24.body)).drop 2).headD .skip))))) (by kernel_rfl) (block_ret (jai r1 (loop_ret r2))),m2⟩
set_option maxRecDepth 100000 in
theorem uT750 {h:H} (m:Meets jf7 h) : ∃ h',runL (jab prog fuel 55) fuel (((flat c24.body)).drop 0) jf7.E h=some (.ret,jjS.E,h')/\Meets jjS h':=by
 obtain ⟨h1,r1,m1⟩:=jah (jaa 55).1 (jaa 55).2 uK752 m
 obtain ⟨h2,r2,m2⟩:=uB753 m1
 exact ⟨h2,jak 2 r1 ((je2 (by kernel_rfl) r2 (by rfl))),m2⟩
set_option maxRecDepth 100000 in
theorem uB747 {h:H} (m:Meets jlW h) : ∃ h',D (jab prog fuel 56) fuel ((((flat c8.body)).drop 2).headD .skip) jlW.E h=some (.normal,joz.E,h')/\Meets joz h':=by
 obtain ⟨h1,r1,m1⟩:=jaw uK749 (by kernel_rfl) (b:=h.nx) m
 obtain ⟨h2,r2,m2⟩:=uT750 (show Meets jf7 _ from ⟨m1.nx,m1.has,m1.wf⟩)
 have hc:=ja2 (d:=55) (f:=24) (fn:=c24) (args:=[(.ptr (some (20055,0))),(.i (0)),(.i (9))]) (l:=[(.i (1)),(.i (0))]) (by rfl) (by rfl) (by rfl) r2 m2 (by kernel_rfl)
 obtain ⟨h3,r3,m3⟩:=jaw uK809 (by kernel_rfl) (b:=h.nx) (show Meets jo0 _ from ⟨m2.nx,jaC m2.has (by kernel_rfl),m2.wf⟩)
 exact ⟨h3,D_of (c' := .region 0 (((rgO ((((flat c8.body)).drop 2).headD .skip))).take 3++jce (rgO ((((flat c8.body)).drop 2).headD .skip)) 3 :: ((rgO ((((flat c8.body)).drop 2).headD .skip))).drop 4) [0,8,9]) (by kernel_rfl) (jap (v:=(.tup [(.i (1)),(.i (0))])) r1 (by kernel_rfl) (jao (by kernel_rfl) (by kernel_rfl) hc) (by kernel_rfl) (by kernel_rfl) r3 (by kernel_rfl)),⟨m3.nx,m3.has,m3.wf⟩⟩
set_option maxRecDepth 100000 in
theorem uT744 {h:H} (m:Meets jf7 h) : ∃ h',runL (jab prog fuel 56) fuel (((flat c8.body)).drop 0) jf7.E h=some (.ret,jpr.E,h')/\Meets jpr h':=by
 obtain ⟨h1,r1,m1⟩:=jah (jaa 56).1 (jaa 56).2 uK746 m
 obtain ⟨h2,r2,m2⟩:=uB747 m1
 obtain ⟨h3,r3,m3⟩:=jah (jaa 56).1 (jaa 56).2 uK814 m2
 exact ⟨h3,jak 2 r1 (jam (by kernel_rfl) r2 ((r3))),m3⟩
set_option maxRecDepth 100000 in
theorem uB740 {h:H} (m:Meets jlX h) : ∃ h',D (jab prog fuel 57) fuel ((((flat (blkB ((((flat (lpB (blkB ((((flat c4.body)).drop 16).headD .skip))))).drop 2).headD .skip)))).drop 1).headD .skip) jlX.E h=some (.normal,jox.E,h')/\Meets jox h':=by
 obtain ⟨h1,r1,m1⟩:=jaw uK742 (by kernel_rfl) (b:=h.nx) m
 obtain ⟨h2,r2,m2⟩:=uT744 (show Meets jf7 _ from ⟨m1.nx,m1.has,m1.wf⟩)
 have hc:=ja2 (d:=56) (f:=8) (fn:=c8) (args:=[(.ptr (some (20055,0))),(.i (0)),(.i (9))]) (l:=[(.i (1)),(.i (0))]) (by rfl) (by rfl) (by rfl) r2 m2 (by kernel_rfl)
 obtain ⟨h3,r3,m3⟩:=jaw uK818 (by kernel_rfl) (b:=h.nx) (show Meets joy _ from ⟨m2.nx,jaC m2.has (by kernel_rfl),m2.wf⟩)
 exact ⟨h3,D_of (c' := .region 0 (((rgO ((((flat (blkB ((((flat (lpB (blkB ((((flat c4.body)).drop 16).headD .skip))))).drop 2).headD .skip)))).drop 1).headD .skip))).take 8++jce (rgO ((((flat (blkB ((((flat (lpB (blkB ((((flat c4.body)).drop 16).headD .skip))))).drop 2).headD .skip)))).drop 1).headD .skip)) 8 :: ((rgO ((((flat (blkB ((((flat (lpB (blkB ((((flat c4.body)).drop 16).headD .skip))))).drop 2).headD .skip)))).drop 1).headD .skip))).drop 9) [3,6,11,17,18,100,101]) (by kernel_rfl) (jap (v:=(.tup [(.i (1)),(.i (0))])) r1 (by kernel_rfl) (jao (by kernel_rfl) (by kernel_rfl) hc) (by kernel_rfl) (by kernel_rfl) r3 (by kernel_rfl)),⟨m3.nx,m3.has,m3.wf⟩⟩
set_option maxRecDepth 100000 in
theorem uT737 {h:H} (m:Meets jjU h) : ∃ h',runL (jab prog fuel 57) fuel (((flat (blkB ((((flat (lpB (blkB ((((flat c4.body)).drop 16).headD .skip))))).drop 2).headD .skip)))).drop 0) jjU.E h=some (.normal,jjR.E,h')/\Meets jjR h':=by
 obtain ⟨h1,r1,m1⟩:=jah (jaa 57).1 (jaa 57).2 uK739 m
 obtain ⟨h2,r2,m2⟩:=uB740 m1
 obtain ⟨h3,r3,m3⟩:=jah (jaa 57).1 (jaa 57).2 uK823 m2
 exact ⟨h3,jak 1 r1 (jam (by kernel_rfl) r2 ((r3))),m3⟩
set_option maxRecDepth 100000 in
theorem uB736 {h:H} (m:Meets jjU h) : ∃ h',D (jab prog fuel 57) fuel ((((flat (lpB (blkB ((((flat c4.body)).drop 16).headD .skip))))).drop 2).headD .skip) jjU.E h=some (.normal,jjR.E,h')/\Meets jjR h':=by
 obtain ⟨h1,r1,m1⟩:=uT737 m
 exact ⟨h1,D_of (c' := .block 3 (blkB ((((flat (lpB (blkB ((((flat c4.body)).drop 16).headD .skip))))).drop 2).headD .skip))) (by kernel_rfl) (ja9 (jb2 r1)),m1⟩
set_option maxRecDepth 100000 in
theorem uT733 {h:H} (m:Meets jhI h) : ∃ h',runL (jab prog fuel 57) fuel (((flat (lpB (blkB ((((flat c4.body)).drop 16).headD .skip))))).drop 0) jhI.E h=some (.normal,jhG.E,h')/\Meets jhG h':=by
 obtain ⟨h1,r1,m1⟩:=jah (jaa 57).1 (jaa 57).2 uK735 m
 obtain ⟨h2,r2,m2⟩:=uB736 m1
 obtain ⟨h3,r3,m3⟩:=jah (jaa 57).1 (jaa 57).2 uK825 m2
 exact ⟨h3,jak 2 r1 (jam (by kernel_rfl) r2 ((r3))),m3⟩
set_option maxRecDepth 100000 in
theorem uT826 {h:H} (m:Meets jhG h) : ∃ h',runL (jab prog fuel 57) fuel (((flat (lpB (blkB ((((flat c4.body)).drop 16).headD .skip))))).drop 0) jhG.E h=some (.normal,jhF.E,h')/\Meets jhF h':=by
 obtain ⟨h1,r1,m1⟩:=jah (jaa 57).1 (jaa 57).2 uK833 m
 exact ⟨h1,(r1),m1⟩
set_option maxRecDepth 100000 in
theorem uT834 {h:H} (m:Meets jhF h) : ∃ h',runL (jab prog fuel 57) fuel (((flat (lpB (blkB ((((flat c4.body)).drop 16).headD .skip))))).drop 0) jhF.E h=some ((.exit 2),jjQ.E,h')/\Meets jjQ h':=by
 obtain ⟨h1,r1,m1⟩:=jah (jaa 57).1 (jaa 57).2 uK836 m
 exact ⟨h1,(r1),m1⟩
set_option maxRecDepth 100000 in
theorem uB732 {h:H} (m:Meets jhI h) : ∃ h',D (jab prog fuel 57) fuel ((((flat c4.body)).drop 16).headD .skip) jhI.E h=some (.normal,jjQ.E,h')/\Meets jjQ h':=by
 obtain ⟨h1,r1,m1⟩:=uT733 (show Meets jhI _ from ⟨m.nx,m.has,m.wf⟩)
 obtain ⟨h2,r2,m2⟩:=uT826 (show Meets jhG _ from ⟨m1.nx,m1.has,m1.wf⟩)
 obtain ⟨h3,r3,m3⟩:=uT834 (show Meets jhF _ from ⟨m2.nx,m2.has,m2.wf⟩)
 exact ⟨h3,D_of (c' := .block 2 (.loop [3,6,11,100,101] (lpB (blkB ((((flat c4.body)).drop 16).headD .skip))))) (by kernel_rfl) (block_exit (jai r1 (jai r2 (loop_exit r3)))),m3⟩
set_option maxRecDepth 100000 in
theorem uT699 {h:H} (m:Meets jnd h) : ∃ h',runL (jab prog fuel 57) fuel (((flat c4.body)).drop 0) jnd.E h=some (.ret,jpq.E,h')/\Meets jpq h':=by
 obtain ⟨h1,r1,m1⟩:=jah (jaa 57).1 (jaa 57).2 uK731 m
 obtain ⟨h2,r2,m2⟩:=uB732 m1
 obtain ⟨h3,r3,m3⟩:=jah (jaa 57).1 (jaa 57).2 uK841 m2
 exact ⟨h3,jak 16 r1 (jam (by kernel_rfl) r2 ((r3))),m3⟩
set_option maxRecDepth 100000 in
theorem uB686 {h:H} (m:Meets jf8 h) : ∃ h',D (jab prog fuel 58) fuel ((((flat (blkB ((((flat (lpB (blkB ((((flat c10.body)).drop 2).headD .skip))))).drop 2).headD .skip)))).drop 0).headD .skip) jf8.E h=some (.normal,jov.E,h')/\Meets jov h':=by
 obtain ⟨h1,r1,m1⟩:=jaw uK697 (by kernel_rfl) (b:=h.nx) m
 obtain ⟨h2,r2,m2⟩:=uT699 (show Meets jnd _ from ⟨m1.nx,m1.has,m1.wf⟩)
 have hc:=ja2 (d:=57) (f:=4) (fn:=c4) (args:=[(.agg [(.slice (some (19765,0)) 1 (.fix 1)),(.slice (some (19768,0)) 1 (.fix 1)),(.slice (some (19771,0)) 1 (.fix 1)),(.slice (some (19772,0)) 2 (.fix 2)),(.i (9))]),(.i (1)),(.i (1))]) (l:=[(.agg [(.slice (some (21454,0)) 7 (.grow 1)),(.slice (some (21456,0)) 6 (.grow 7)),(.ptr (some (19779,0))),(.slice (some (20059,0)) 2 (.grow 1))]),(.i (1))]) (by rfl) (by rfl) (by rfl) r2 m2 (by kernel_rfl)
 obtain ⟨h3,r3,m3⟩:=jaw uK847 (by kernel_rfl) (b:=h.nx) (show Meets jow _ from ⟨m2.nx,jaC m2.has (by kernel_rfl),m2.wf⟩)
 exact ⟨h3,D_of (c' := .region 0 (((rgO ((((flat (blkB ((((flat (lpB (blkB ((((flat c10.body)).drop 2).headD .skip))))).drop 2).headD .skip)))).drop 0).headD .skip))).take 2++jce (rgO ((((flat (blkB ((((flat (lpB (blkB ((((flat c10.body)).drop 2).headD .skip))))).drop 2).headD .skip)))).drop 0).headD .skip)) 2 :: ((rgO ((((flat (blkB ((((flat (lpB (blkB ((((flat c10.body)).drop 2).headD .skip))))).drop 2).headD .skip)))).drop 0).headD .skip))).drop 3) [1,2,3]) (by kernel_rfl) (jap (v:=(.tup [(.agg [(.slice (some (21454,0)) 7 (.grow 1)),(.slice (some (21456,0)) 6 (.grow 7)),(.ptr (some (19779,0))),(.slice (some (20059,0)) 2 (.grow 1))]),(.i (1))])) r1 (by kernel_rfl) (jao (by kernel_rfl) (by kernel_rfl) hc) (by kernel_rfl) (by kernel_rfl) r3 (by kernel_rfl)),⟨m3.nx,m3.has,m3.wf⟩⟩
set_option maxRecDepth 100000 in
theorem uT685 {h:H} (m:Meets jf8 h) : ∃ h',runL (jab prog fuel 58) fuel (((flat (blkB ((((flat (lpB (blkB ((((flat c10.body)).drop 2).headD .skip))))).drop 2).headD .skip)))).drop 0) jf8.E h=some (.normal,jjP.E,h')/\Meets jjP h':=by
 obtain ⟨h1,r1,m1⟩:=uB686 m
 obtain ⟨h2,r2,m2⟩:=jah (jaa 58).1 (jaa 58).2 uK849 m1
 exact ⟨h2,jam (by kernel_rfl) r1 ((r2)),m2⟩
set_option maxRecDepth 100000 in
theorem uB684 {h:H} (m:Meets jf8 h) : ∃ h',D (jab prog fuel 58) fuel ((((flat (lpB (blkB ((((flat c10.body)).drop 2).headD .skip))))).drop 2).headD .skip) jf8.E h=some (.normal,jjP.E,h')/\Meets jjP h':=by
 obtain ⟨h1,r1,m1⟩:=uT685 m
 exact ⟨h1,D_of (c' := .block 1 (blkB ((((flat (lpB (blkB ((((flat c10.body)).drop 2).headD .skip))))).drop 2).headD .skip))) (by kernel_rfl) (ja9 (jb2 r1)),m1⟩
set_option maxRecDepth 100000 in
theorem uT681 {h:H} (m:Meets jhJ h) : ∃ h',runL (jab prog fuel 58) fuel (((flat (lpB (blkB ((((flat c10.body)).drop 2).headD .skip))))).drop 0) jhJ.E h=some (.normal,jhE.E,h')/\Meets jhE h':=by
 obtain ⟨h1,r1,m1⟩:=jah (jaa 58).1 (jaa 58).2 uK683 m
 obtain ⟨h2,r2,m2⟩:=uB684 m1
 obtain ⟨h3,r3,m3⟩:=jah (jaa 58).1 (jaa 58).2 uK851 m2
 exact ⟨h3,jak 2 r1 (jam (by kernel_rfl) r2 ((r3))),m3⟩
set_option maxRecDepth 100000 in
theorem uT852 {h:H} (m:Meets jhE h) : ∃ h',runL (jab prog fuel 58) fuel (((flat (lpB (blkB ((((flat c10.body)).drop 2).headD .skip))))).drop 0) jhE.E h=some (.normal,jhD.E,h')/\Meets jhD h':=by
 obtain ⟨h1,r1,m1⟩:=jah (jaa 58).1 (jaa 58).2 uK854 m
 exact ⟨h1,(r1),m1⟩
set_option maxRecDepth 100000 in
theorem uT855 {h:H} (m:Meets jhD h) : ∃ h',runL (jab prog fuel 58) fuel (((flat (lpB (blkB ((((flat c10.body)).drop 2).headD .skip))))).drop 0) jhD.E h=some (.normal,jhC.E,h')/\Meets jhC h':=by
 obtain ⟨h1,r1,m1⟩:=jah (jaa 58).1 (jaa 58).2 uK857 m
 exact ⟨h1,(r1),m1⟩
set_option maxRecDepth 100000 in
theorem uT937 {h:H} (m:Meets jna h) : ∃ h',runL (jab prog fuel 54) fuel (((flat c59.body)).drop 0) jna.E h=some (.ret,jpn.E,h')/\Meets jpn h':=by
 obtain ⟨h1,r1,m1⟩:=jah (jaa 54).1 (jaa 54).2 uK941 m
 obtain ⟨h2,r2,m2⟩:=jah (jaa 54).1 (jaa 54).2 uK951 m1
 obtain ⟨h3,r3,m3⟩:=jah (jaa 54).1 (jaa 54).2 uK962 m2
 exact ⟨h3,jak 3 r1 (jak 1 r2 ((r3))),m3⟩
set_option maxRecDepth 100000 in
theorem uB933 {h:H} (m:Meets jlS h) : ∃ h',D (jab prog fuel 55) fuel ((((flat (blkB ((((flat (lpB (blkB ((((flat c24.body)).drop 2).headD .skip))))).drop 0).headD .skip)))).drop 2).headD .skip) jlS.E h=some (.normal,jot.E,h')/\Meets jot h':=by
 obtain ⟨h1,r1,m1⟩:=jaw uK935 (by kernel_rfl) (b:=h.nx) m
 obtain ⟨h2,r2,m2⟩:=uT937 (show Meets jna _ from ⟨m1.nx,m1.has,m1.wf⟩)
 have hc:=ja2 (d:=54) (f:=59) (fn:=c59) (args:=[(.ptr (some (23091,0))),(.i (0))]) (l:=[(.bool true),(.i (-1)),(.i (0))]) (by rfl) (by rfl) (by rfl) r2 m2 (by kernel_rfl)
 obtain ⟨h3,r3,m3⟩:=jaw uK967 (by kernel_rfl) (b:=h.nx) (show Meets jou _ from ⟨m2.nx,jaC m2.has (by kernel_rfl),m2.wf⟩)
 exact ⟨h3,D_of (c' := .region 0 (((rgO ((((flat (blkB ((((flat (lpB (blkB ((((flat c24.body)).drop 2).headD .skip))))).drop 0).headD .skip)))).drop 2).headD .skip))).take 2++jce (rgO ((((flat (blkB ((((flat (lpB (blkB ((((flat c24.body)).drop 2).headD .skip))))).drop 0).headD .skip)))).drop 2).headD .skip)) 2 :: ((rgO ((((flat (blkB ((((flat (lpB (blkB ((((flat c24.body)).drop 2).headD .skip))))).drop 0).headD .skip)))).drop 2).headD .skip))).drop 3) [0,1,2,8,10,11]) (by kernel_rfl) (jap (v:=(.tup [(.bool true),(.i (-1)),(.i (0))])) r1 (by kernel_rfl) (jao (by kernel_rfl) (by kernel_rfl) hc) (by kernel_rfl) (by kernel_rfl) r3 (by kernel_rfl)),⟨m3.nx,m3.has,m3.wf⟩⟩
set_option maxRecDepth 100000 in
theorem uT928 {h:H} (m:Meets jdZ h) : ∃ h',runL (jab prog fuel 55) fuel (((flat (blkB ((((flat (lpB (blkB ((((flat c24.body)).drop 2).headD .skip))))).drop 0).headD .skip)))).drop 0) jdZ.E h=some (.normal,jjN.E,h')/\Meets jjN h':=by
 obtain ⟨h1,r1,m1⟩:=jah (jaa 55).1 (jaa 55).2 uK932 m
 obtain ⟨h2,r2,m2⟩:=uB933 m1
 obtain ⟨h3,r3,m3⟩:=jah (jaa 55).1 (jaa 55).2 uK969 m2
 exact ⟨h3,jak 2 r1 (jam (by kernel_rfl) r2 ((r3))),m3⟩
set_option maxRecDepth 100000 in
theorem uB927 {h:H} (m:Meets jdZ h) : ∃ h',D (jab prog fuel 55) fuel ((((flat (lpB (blkB ((((flat c24.body)).drop 2).headD .skip))))).drop 0).headD .skip) jdZ.E h=some (.normal,jjN.E,h')/\Meets jjN h':=by
 obtain ⟨h1,r1,m1⟩:=uT928 m
 exact ⟨h1,D_of (c' := .block 1 (blkB ((((flat (lpB (blkB ((((flat c24.body)).drop 2).headD .skip))))).drop 0).headD .skip))) (by kernel_rfl) (ja9 (jb2 r1)),m1⟩
set_option maxRecDepth 100000 in
theorem uT926 {h:H} (m:Meets jdZ h) : ∃ h',runL (jab prog fuel 55) fuel (((flat (lpB (blkB ((((flat c24.body)).drop 2).headD .skip))))).drop 0) jdZ.E h=some (.normal,jhA.E,h')/\Meets jhA h':=by
 obtain ⟨h1,r1,m1⟩:=uB927 m
 obtain ⟨h2,r2,m2⟩:=jah (jaa 55).1 (jaa 55).2 uK971 m1
 exact ⟨h2,jam (by kernel_rfl) r1 ((r2)),m2⟩
set_option maxRecDepth 100000 in
theorem uT972 {h:H} (m:Meets jhA h) : ∃ h',runL (jab prog fuel 55) fuel (((flat (lpB (blkB ((((flat c24.body)).drop 2).headD .skip))))).drop 0) jhA.E h=some (.ret,jjM.E,h')/\Meets jjM h':=by
 obtain ⟨h1,r1,m1⟩:=jah (jaa 55).1 (jaa 55).2 uK974 m
 exact ⟨h1,(r1),m1⟩
set_option maxRecDepth 100000 in
theorem uB925 {h:H} (m:Meets jdZ h) : ∃ h',D (jab prog fuel 55) fuel ((((flat c24.body)).drop 2).headD .skip) jdZ.E h=some (.ret,jjM.E,h')/\Meets jjM h':=by
 obtain ⟨h1,r1,m1⟩:=uT926 (show Meets jdZ _ from ⟨m.nx,m.has,m.wf⟩)
 obtain ⟨h2,r2,m2⟩:=uT972 (show Meets jhA _ from ⟨m1.nx,m1.has,m1.wf⟩)
 exact ⟨h2,D_of (c' := .block 0 (.loop [0,1,2,8] (lpB (blkB ((((flat c24.body)).drop 2).headD .skip))))) (by kernel_rfl) (block_ret (jai r1 (loop_ret r2))),m2⟩
set_option maxRecDepth 100000 in
theorem uT922 {h:H} (m:Meets jf5 h) : ∃ h',runL (jab prog fuel 55) fuel (((flat c24.body)).drop 0) jf5.E h=some (.ret,jjM.E,h')/\Meets jjM h':=by
 obtain ⟨h1,r1,m1⟩:=jah (jaa 55).1 (jaa 55).2 uK924 m
 obtain ⟨h2,r2,m2⟩:=uB925 m1
 exact ⟨h2,jak 2 r1 ((je2 (by kernel_rfl) r2 (by rfl))),m2⟩
set_option maxRecDepth 100000 in
theorem uB919 {h:H} (m:Meets jlT h) : ∃ h',D (jab prog fuel 56) fuel ((((flat c8.body)).drop 2).headD .skip) jlT.E h=some (.normal,jor.E,h')/\Meets jor h':=by
 obtain ⟨h1,r1,m1⟩:=jaw uK921 (by kernel_rfl) (b:=h.nx) m
 obtain ⟨h2,r2,m2⟩:=uT922 (show Meets jf5 _ from ⟨m1.nx,m1.has,m1.wf⟩)
 have hc:=ja2 (d:=55) (f:=24) (fn:=c24) (args:=[(.ptr (some (23091,0))),(.i (0)),(.i (9))]) (l:=[(.i (1)),(.i (0))]) (by rfl) (by rfl) (by rfl) r2 m2 (by kernel_rfl)
 obtain ⟨h3,r3,m3⟩:=jaw uK978 (by kernel_rfl) (b:=h.nx) (show Meets jos _ from ⟨m2.nx,jaC m2.has (by kernel_rfl),m2.wf⟩)
 exact ⟨h3,D_of (c' := .region 0 (((rgO ((((flat c8.body)).drop 2).headD .skip))).take 3++jce (rgO ((((flat c8.body)).drop 2).headD .skip)) 3 :: ((rgO ((((flat c8.body)).drop 2).headD .skip))).drop 4) [0,8,9]) (by kernel_rfl) (jap (v:=(.tup [(.i (1)),(.i (0))])) r1 (by kernel_rfl) (jao (by kernel_rfl) (by kernel_rfl) hc) (by kernel_rfl) (by kernel_rfl) r3 (by kernel_rfl)),⟨m3.nx,m3.has,m3.wf⟩⟩
set_option maxRecDepth 100000 in
theorem uT916 {h:H} (m:Meets jf5 h) : ∃ h',runL (jab prog fuel 56) fuel (((flat c8.body)).drop 0) jf5.E h=some (.ret,jpm.E,h')/\Meets jpm h':=by
 obtain ⟨h1,r1,m1⟩:=jah (jaa 56).1 (jaa 56).2 uK918 m
 obtain ⟨h2,r2,m2⟩:=uB919 m1
 obtain ⟨h3,r3,m3⟩:=jah (jaa 56).1 (jaa 56).2 uK983 m2
 exact ⟨h3,jak 2 r1 (jam (by kernel_rfl) r2 ((r3))),m3⟩
set_option maxRecDepth 100000 in
theorem uB912 {h:H} (m:Meets jlU h) : ∃ h',D (jab prog fuel 57) fuel ((((flat (blkB ((((flat (lpB (blkB ((((flat c4.body)).drop 16).headD .skip))))).drop 2).headD .skip)))).drop 1).headD .skip) jlU.E h=some (.normal,jop.E,h')/\Meets jop h':=by
 obtain ⟨h1,r1,m1⟩:=jaw uK914 (by kernel_rfl) (b:=h.nx) m
 obtain ⟨h2,r2,m2⟩:=uT916 (show Meets jf5 _ from ⟨m1.nx,m1.has,m1.wf⟩)
 have hc:=ja2 (d:=56) (f:=8) (fn:=c8) (args:=[(.ptr (some (23091,0))),(.i (0)),(.i (9))]) (l:=[(.i (1)),(.i (0))]) (by rfl) (by rfl) (by rfl) r2 m2 (by kernel_rfl)
 obtain ⟨h3,r3,m3⟩:=jaw uK987 (by kernel_rfl) (b:=h.nx) (show Meets joq _ from ⟨m2.nx,jaC m2.has (by kernel_rfl),m2.wf⟩)
 exact ⟨h3,D_of (c' := .region 0 (((rgO ((((flat (blkB ((((flat (lpB (blkB ((((flat c4.body)).drop 16).headD .skip))))).drop 2).headD .skip)))).drop 1).headD .skip))).take 8++jce (rgO ((((flat (blkB ((((flat (lpB (blkB ((((flat c4.body)).drop 16).headD .skip))))).drop 2).headD .skip)))).drop 1).headD .skip)) 8 :: ((rgO ((((flat (blkB ((((flat (lpB (blkB ((((flat c4.body)).drop 16).headD .skip))))).drop 2).headD .skip)))).drop 1).headD .skip))).drop 9) [3,6,11,17,18,100,101]) (by kernel_rfl) (jap (v:=(.tup [(.i (1)),(.i (0))])) r1 (by kernel_rfl) (jao (by kernel_rfl) (by kernel_rfl) hc) (by kernel_rfl) (by kernel_rfl) r3 (by kernel_rfl)),⟨m3.nx,m3.has,m3.wf⟩⟩
set_option maxRecDepth 100000 in
theorem uT909 {h:H} (m:Meets jjO h) : ∃ h',runL (jab prog fuel 57) fuel (((flat (blkB ((((flat (lpB (blkB ((((flat c4.body)).drop 16).headD .skip))))).drop 2).headD .skip)))).drop 0) jjO.E h=some (.normal,jjL.E,h')/\Meets jjL h':=by
 obtain ⟨h1,r1,m1⟩:=jah (jaa 57).1 (jaa 57).2 uK911 m
 obtain ⟨h2,r2,m2⟩:=uB912 m1
 obtain ⟨h3,r3,m3⟩:=jah (jaa 57).1 (jaa 57).2 uK991 m2
 exact ⟨h3,jak 1 r1 (jam (by kernel_rfl) r2 ((r3))),m3⟩
set_option maxRecDepth 100000 in
theorem uB908 {h:H} (m:Meets jjO h) : ∃ h',D (jab prog fuel 57) fuel ((((flat (lpB (blkB ((((flat c4.body)).drop 16).headD .skip))))).drop 2).headD .skip) jjO.E h=some (.normal,jjL.E,h')/\Meets jjL h':=by
 obtain ⟨h1,r1,m1⟩:=uT909 m
 exact ⟨h1,D_of (c' := .block 3 (blkB ((((flat (lpB (blkB ((((flat c4.body)).drop 16).headD .skip))))).drop 2).headD .skip))) (by kernel_rfl) (ja9 (jb2 r1)),m1⟩
set_option maxRecDepth 100000 in
theorem uT905 {h:H} (m:Meets jhB h) : ∃ h',runL (jab prog fuel 57) fuel (((flat (lpB (blkB ((((flat c4.body)).drop 16).headD .skip))))).drop 0) jhB.E h=some (.normal,jh9.E,h')/\Meets jh9 h':=by
 obtain ⟨h1,r1,m1⟩:=jah (jaa 57).1 (jaa 57).2 uK907 m
 obtain ⟨h2,r2,m2⟩:=uB908 m1
 obtain ⟨h3,r3,m3⟩:=jah (jaa 57).1 (jaa 57).2 uK993 m2
 exact ⟨h3,jak 2 r1 (jam (by kernel_rfl) r2 ((r3))),m3⟩
set_option maxRecDepth 100000 in
theorem uT994 {h:H} (m:Meets jh9 h) : ∃ h',runL (jab prog fuel 57) fuel (((flat (lpB (blkB ((((flat c4.body)).drop 16).headD .skip))))).drop 0) jh9.E h=some (.normal,jh8.E,h')/\Meets jh8 h':=by
 obtain ⟨h1,r1,m1⟩:=jah (jaa 57).1 (jaa 57).2 uK1000 m
 exact ⟨h1,(r1),m1⟩
set_option maxRecDepth 100000 in
theorem uT1001 {h:H} (m:Meets jh8 h) : ∃ h',runL (jab prog fuel 57) fuel (((flat (lpB (blkB ((((flat c4.body)).drop 16).headD .skip))))).drop 0) jh8.E h=some ((.exit 2),jeB.E,h')/\Meets jeB h':=by
 obtain ⟨h1,r1,m1⟩:=jah (jaa 57).1 (jaa 57).2 uK1003 m
 exact ⟨h1,(r1),m1⟩
set_option maxRecDepth 100000 in
theorem uB904 {h:H} (m:Meets jhB h) : ∃ h',D (jab prog fuel 57) fuel ((((flat c4.body)).drop 16).headD .skip) jhB.E h=some (.normal,jeB.E,h')/\Meets jeB h':=by
 obtain ⟨h1,r1,m1⟩:=uT905 (show Meets jhB _ from ⟨m.nx,m.has,m.wf⟩)
 obtain ⟨h2,r2,m2⟩:=uT994 (show Meets jh9 _ from ⟨m1.nx,m1.has,m1.wf⟩)
 obtain ⟨h3,r3,m3⟩:=uT1001 (show Meets jh8 _ from ⟨m2.nx,m2.has,m2.wf⟩)
 exact ⟨h3,D_of (c' := .block 2 (.loop [3,6,11,100,101] (lpB (blkB ((((flat c4.body)).drop 16).headD .skip))))) (by kernel_rfl) (block_exit (jai r1 (jai r2 (loop_exit r3)))),m3⟩
set_option maxRecDepth 100000 in
theorem uT872 {h:H} (m:Meets jnb h) : ∃ h',runL (jab prog fuel 57) fuel (((flat c4.body)).drop 0) jnb.E h=some (.ret,jnl.E,h')/\Meets jnl h':=by
 obtain ⟨h1,r1,m1⟩:=jah (jaa 57).1 (jaa 57).2 uK903 m
 obtain ⟨h2,r2,m2⟩:=uB904 m1
 obtain ⟨h3,r3,m3⟩:=jah (jaa 57).1 (jaa 57).2 uK1008 m2
 exact ⟨h3,jak 16 r1 (jam (by kernel_rfl) r2 ((r3))),m3⟩
set_option maxRecDepth 100000 in
theorem uB863 {h:H} (m:Meets jf6 h) : ∃ h',D (jab prog fuel 58) fuel ((((flat (blkB ((((flat (lpB (blkB ((((flat c10.body)).drop 2).headD .skip))))).drop 2).headD .skip)))).drop 0).headD .skip) jf6.E h=some (.normal,jlk.E,h')/\Meets jlk h':=by
 obtain ⟨h1,r1,m1⟩:=jaw uK870 (by kernel_rfl) (b:=h.nx) m
 obtain ⟨h2,r2,m2⟩:=uT872 (show Meets jnb _ from ⟨m1.nx,m1.has,m1.wf⟩)
 have hc:=ja2 (d:=57) (f:=4) (fn:=c4) (args:=[(.agg [(.slice (some (22797,0)) 1 (.fix 1)),(.slice (some (22800,0)) 1 (.fix 1)),(.slice (some (22803,0)) 1 (.fix 1)),(.slice (some (22804,0)) 2 (.fix 2)),(.i (9))]),(.i (4)),(.i (1))]) (l:=[(.agg [(.slice (some (24429,0)) 7 (.grow 1)),(.slice (some (24431,0)) 6 (.grow 7)),(.ptr (some (22811,0))),(.slice (some (23095,0)) 2 (.grow 1))]),(.i (1))]) (by rfl) (by rfl) (by rfl) r2 m2 (by kernel_rfl)
 obtain ⟨h3,r3,m3⟩:=jaw uK1014 (by kernel_rfl) (b:=h.nx) (show Meets jll _ from ⟨m2.nx,jaC m2.has (by kernel_rfl),m2.wf⟩)
 exact ⟨h3,D_of (c' := .region 0 (((rgO ((((flat (blkB ((((flat (lpB (blkB ((((flat c10.body)).drop 2).headD .skip))))).drop 2).headD .skip)))).drop 0).headD .skip))).take 2++jce (rgO ((((flat (blkB ((((flat (lpB (blkB ((((flat c10.body)).drop 2).headD .skip))))).drop 2).headD .skip)))).drop 0).headD .skip)) 2 :: ((rgO ((((flat (blkB ((((flat (lpB (blkB ((((flat c10.body)).drop 2).headD .skip))))).drop 2).headD .skip)))).drop 0).headD .skip))).drop 3) [1,2,3]) (by kernel_rfl) (jap (v:=(.tup [(.agg [(.slice (some (24429,0)) 7 (.grow 1)),(.slice (some (24431,0)) 6 (.grow 7)),(.ptr (some (22811,0))),(.slice (some (23095,0)) 2 (.grow 1))]),(.i (1))])) r1 (by kernel_rfl) (jao (by kernel_rfl) (by kernel_rfl) hc) (by kernel_rfl) (by kernel_rfl) r3 (by kernel_rfl)),⟨m3.nx,m3.has,m3.wf⟩⟩
set_option maxRecDepth 100000 in
theorem uT862 {h:H} (m:Meets jf6 h) : ∃ h',runL (jab prog fuel 58) fuel (((flat (blkB ((((flat (lpB (blkB ((((flat c10.body)).drop 2).headD .skip))))).drop 2).headD .skip)))).drop 0) jf6.E h=some (.normal,jeA.E,h')/\Meets jeA h':=by
 obtain ⟨h1,r1,m1⟩:=uB863 m
 obtain ⟨h2,r2,m2⟩:=jah (jaa 58).1 (jaa 58).2 uK1016 m1
 exact ⟨h2,jam (by kernel_rfl) r1 ((r2)),m2⟩
set_option maxRecDepth 100000 in
theorem uB861 {h:H} (m:Meets jf6 h) : ∃ h',D (jab prog fuel 58) fuel ((((flat (lpB (blkB ((((flat c10.body)).drop 2).headD .skip))))).drop 2).headD .skip) jf6.E h=some (.normal,jeA.E,h')/\Meets jeA h':=by
 obtain ⟨h1,r1,m1⟩:=uT862 m
 exact ⟨h1,D_of (c' := .block 1 (blkB ((((flat (lpB (blkB ((((flat c10.body)).drop 2).headD .skip))))).drop 2).headD .skip))) (by kernel_rfl) (ja9 (jb2 r1)),m1⟩
set_option maxRecDepth 100000 in
theorem uT858 {h:H} (m:Meets jhC h) : ∃ h',runL (jab prog fuel 58) fuel (((flat (lpB (blkB ((((flat c10.body)).drop 2).headD .skip))))).drop 0) jhC.E h=some (.normal,jdN.E,h')/\Meets jdN h':=by
 obtain ⟨h1,r1,m1⟩:=jah (jaa 58).1 (jaa 58).2 uK860 m
 obtain ⟨h2,r2,m2⟩:=uB861 m1
 obtain ⟨h3,r3,m3⟩:=jah (jaa 58).1 (jaa 58).2 uK1018 m2
 exact ⟨h3,jak 2 r1 (jam (by kernel_rfl) r2 ((r3))),m3⟩
set_option maxRecDepth 100000 in
theorem uT1019 {h:H} (m:Meets jdN h) : ∃ h',runL (jab prog fuel 58) fuel (((flat (lpB (blkB ((((flat c10.body)).drop 2).headD .skip))))).drop 0) jdN.E h=some ((.exit 0),je9.E,h')/\Meets je9 h':=by
 obtain ⟨h1,r1,m1⟩:=jah (jaa 58).1 (jaa 58).2 uK1021 m
 exact ⟨h1,(r1),m1⟩
set_option maxRecDepth 100000 in
theorem uB680 {h:H} (m:Meets jhJ h) : ∃ h',D (jab prog fuel 58) fuel ((((flat c10.body)).drop 2).headD .skip) jhJ.E h=some (.normal,je9.E,h')/\Meets je9 h':=by
 obtain ⟨h1,r1,m1⟩:=uT681 (show Meets jhJ _ from ⟨m.nx,m.has,m.wf⟩)
 obtain ⟨h2,r2,m2⟩:=uT852 (show Meets jhE _ from ⟨m1.nx,m1.has,m1.wf⟩)
 obtain ⟨h3,r3,m3⟩:=uT855 (show Meets jhD _ from ⟨m2.nx,m2.has,m2.wf⟩)
 obtain ⟨h4,r4,m4⟩:=uT858 (show Meets jhC _ from ⟨m3.nx,m3.has,m3.wf⟩)
 obtain ⟨h5,r5,m5⟩:=uT1019 (show Meets jdN _ from ⟨m4.nx,m4.has,m4.wf⟩)
 exact ⟨h5,D_of (c' := .block 0 (.loop [1] (lpB (blkB ((((flat c10.body)).drop 2).headD .skip))))) (by kernel_rfl) (block_exit (jai r1 (jai r2 (jai r3 (jai r4 (loop_exit r5)))))),m5⟩
set_option maxRecDepth 100000 in
theorem uT677 {h:H} (m:Meets jne h) : ∃ h',runL (jab prog fuel 58) fuel (((flat c10.body)).drop 0) jne.E h=some (.ret,jnk.E,h')/\Meets jnk h':=by
 obtain ⟨h1,r1,m1⟩:=jah (jaa 58).1 (jaa 58).2 uK679 m
 obtain ⟨h2,r2,m2⟩:=uB680 m1
 obtain ⟨h3,r3,m3⟩:=jah (jaa 58).1 (jaa 58).2 uK1023 m2
 exact ⟨h3,jak 2 r1 (jam (by kernel_rfl) r2 ((r3))),m3⟩
set_option maxRecDepth 100000 in
theorem uB673 {h:H} (m:Meets jlY h) : ∃ h',D (jab prog fuel 59) fuel ((((flat c3.body)).drop 19).headD .skip) jlY.E h=some (.normal,jdM.E,h')/\Meets jdM h':=by
 obtain ⟨h1,r1,m1⟩:=jaw uK675 (by kernel_rfl) (b:=h.nx) m
 obtain ⟨h2,r2,m2⟩:=uT677 (show Meets jne _ from ⟨m1.nx,m1.has,m1.wf⟩)
 have hc:=ja2 (d:=58) (f:=10) (fn:=c10) (args:=[]) (l:=[(.bool true)]) (by rfl) (by rfl) (by rfl) r2 m2 (by kernel_rfl)
 obtain ⟨h3,r3,m3⟩:=jaw uK1028 (by kernel_rfl) (b:=h.nx) (show Meets jlj _ from ⟨m2.nx,jaC m2.has (by kernel_rfl),m2.wf⟩)
 exact ⟨h3,D_of (c' := .region 0 (((rgO ((((flat c3.body)).drop 19).headD .skip))).take 1++jce (rgO ((((flat c3.body)).drop 19).headD .skip)) 1 :: ((rgO ((((flat c3.body)).drop 19).headD .skip))).drop 2) [0]) (by kernel_rfl) (jap (v:=(.bool true)) r1 (by kernel_rfl) (jao (by kernel_rfl) (by kernel_rfl) hc) (by kernel_rfl) (by kernel_rfl) r3 (by kernel_rfl)),⟨m3.nx,m3.has,m3.wf⟩⟩
set_option maxRecDepth 100000 in
theorem uT5 {h:H} (m:Meets uS4 h) : ∃ h',runL (jab prog fuel 59) fuel (((flat c3.body)).drop 0) uS4.E h=some (.ret,jdM.E,h')/\Meets jdM h':=by
 obtain ⟨h1,r1,m1⟩:=jah (jaa 59).1 (jaa 59).2 uK9 m
 obtain ⟨h2,r2,m2⟩:=uB10 m1
 obtain ⟨h3,r3,m3⟩:=jah (jaa 59).1 (jaa 59).2 uK672 m2
 obtain ⟨h4,r4,m4⟩:=uB673 m3
 obtain ⟨h5,r5,m5⟩:=jah (jaa 59).1 (jaa 59).2 uK1029 m4
 exact ⟨h5,jak 4 r1 (jam (by kernel_rfl) r2 (jak 14 r3 (jam (by kernel_rfl) r4 ((r5))))),m5⟩
end Am.Sigs
