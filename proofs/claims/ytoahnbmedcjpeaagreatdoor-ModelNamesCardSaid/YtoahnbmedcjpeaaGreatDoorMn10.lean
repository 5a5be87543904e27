/-
 Texts of a proof, one behind the other (part 11).
-/
import Derived.Test.YtoahnbmedcjpeaaGreatDoorMn3
import Derived.Test.YtoahnbmedcjpeaaGreatDoorMn7
import Derived.Test.YtoahnbmedcjpeaaGreatDoorMn8
import Derived.Test.YtoahnbmedcjpeaaGreatDoorMn9
set_option linter.unusedSimpArgs false
set_option linter.unusedVariables false
namespace Go.Proofs.YtoahnbmedcjpeaaGreatDoor.Ab
set_option maxRecDepth 100000
open Go.RowKit Go.Lib
attribute [local irreducible] AWp AOps AQ AYield AEff ACall AWk AAny AAt AThen AIn APost NoPanic
abbrev q2 (d : Dvc) : AVal := .d (.sl (d.vrfs.flatMap s1D) d.vrfs.length)
abbrev q3 (d : Dvc) : AVal := .d (.sl (d.ifs.flatMap ifxD) d.ifs.length)
abbrev q4 (d : Dvc) : AVal := .d (.sl (d.fils.flatMap filD) d.fils.length)
abbrev q5 (d : Dvc) : AVal := .d (.sl (d.rws.flatMap rwrD) d.rws.length)
abbrev q6 (d : Dvc) : AVal := .d (.sl (d.sts.flatMap staD) d.sts.length)
abbrev q7 (d : Dvc) : AVal := .d (.sl (d.pls.flatMap plstD) d.pls.length)
abbrev q8 (d : Dvc) : AVal := .d (.sl (d.cls.flatMap clstD) d.cls.length)
abbrev q9 (d : Dvc) : AVal := .d (.sl (d.pols.flatMap polD) d.pols.length)
abbrev q10 (d : Dvc) : AVal := .d (.sl (d.osp.flatMap ospD) d.osp.length)
abbrev q11 (d : Dvc) : AVal := .d (.sl (d.bgp.flatMap bgiD) d.bgp.length)
abbrev w1 (d : Dvc) : ABlk := gR 9 1 s1D d.vrfs
abbrev w2 (d : Dvc) : ABlk := gR 38 11 ifxD d.ifs
abbrev w3 (d : Dvc) : ABlk := gR 93 3 rwrD d.rws
abbrev w4 (d : Dvc) : ABlk := gR 97 7 staD d.sts
abbrev w5 (d : Dvc) : ABlk := gR 82 2 filD d.fils
abbrev w6 (d : Dvc) : ABlk := gR 85 2 plstD d.pls
abbrev w7 (d : Dvc) : ABlk := gR 88 2 clstD d.cls
abbrev w8 (d : Dvc) : ABlk := gR 91 3 polD d.pols
abbrev w9 (d : Dvc) : ABlk := gR 73 3 ospD d.osp
abbrev w10 (d : Dvc) : ABlk := gR 77 6 bgiD d.bgp
abbrev dvZ : ABlk := .var [.d (sD []), .d (cD 0), .d (.sc (.slice none 0 0)), .d (.sc (.slice none 0 0)), .d (.sc (.slice none 0 0)), .d (.sc (.slice none 0 0)), .d (.sc (.slice none 0 0)), .d (.sc (.slice none 0 0)), .d (.sc (.slice none 0 0)), .d (.sc (.slice none 0 0)), .d (.sc (.slice none 0 0)), .d (.sc (.slice none 0 0))]
def twNet (d : Dvc) : Net
 | 0 => (16, #[true, false, false, true, false, false, true, false, false, true, false, false, false, false, false, false, false, false, false, false], [(1, .ptr 1 0), (2, .ptr 2 0), (3, .ptr 1 2), (6, .ptr 1 3), (9, .ptr 1 5), (12, .ptr 1 6)], [(1, .var [.d (sD d.nm), .d (cD d.kd), q2 d, q3 d, q4 d, q5 d, q6 d, q7 d, q8 d, q9 d, q10 d, q11 d]), (2, dvZ)])
 | 1 => (15, #[true, true, false, true, false, false, true, false, false, true, false, false, false, false, false, false, false, false, false, false], [(1, .ptr 1 0), (2, .ptr 2 0), (3, .ptr 1 2), (4, q2 d), (6, .ptr 1 3), (9, .ptr 1 5), (12, .ptr 1 6)], [(1, .var [.d (sD d.nm), .d (cD d.kd), q2 d, q3 d, q4 d, q5 d, q6 d, q7 d, q8 d, q9 d, q10 d, q11 d]), (2, dvZ)])
 | 2 => (15, #[true, false, false, true, true, false, true, false, false, true, false, false, false, false, false, false, false, false, false, false], [(1, .ptr 1 0), (2, .ptr 2 0), (3, .ptr 1 2), (6, .ptr 1 3), (7, q3 d), (9, .ptr 1 5), (12, .ptr 1 6)], [(1, .var [.d (sD d.nm), .d (cD d.kd), q2 d, q3 d, q4 d, q5 d, q6 d, q7 d, q8 d, q9 d, q10 d, q11 d]), (2, dvZ)])
 | 3 => (15, #[true, false, false, true, false, false, true, true, false, true, false, false, false, false, false, false, false, false, false, false], [(1, .ptr 1 0), (2, .ptr 2 0), (3, .ptr 1 2), (6, .ptr 1 3), (9, .ptr 1 5), (10, q5 d), (12, .ptr 1 6)], [(1, .var [.d (sD d.nm), .d (cD d.kd), q2 d, q3 d, q4 d, q5 d, q6 d, q7 d, q8 d, q9 d, q10 d, q11 d]), (2, dvZ)])
 | 4 => (15, #[true, false, false, true, false, false, true, false, false, true, true, false, false, false, false, false, false, false, false, false], [(1, .ptr 1 0), (2, .ptr 2 0), (3, .ptr 1 2), (6, .ptr 1 3), (9, .ptr 1 5), (12, .ptr 1 6), (13, q6 d)], [(1, .var [.d (sD d.nm), .d (cD d.kd), q2 d, q3 d, q4 d, q5 d, q6 d, q7 d, q8 d, q9 d, q10 d, q11 d]), (2, dvZ)])
 | 5 => (14, #[true, true, true, true, false, false, true, false, false, true, false, false, false, false, false, false, false, false, false, false], [(1, .ptr 1 0), (2, .ptr 2 0), (3, .ptr 1 2), (4, q2 d), (5, .row 901), (6, .ptr 1 3), (9, .ptr 1 5), (12, .ptr 1 6)], [(1, .var [.d (sD d.nm), .d (cD d.kd), q2 d, q3 d, q4 d, q5 d, q6 d, q7 d, q8 d, q9 d, q10 d, q11 d]), (2, dvZ), (901, w1 d)])
 | 6 => (14, #[true, true, false, true, true, false, true, false, false, true, false, false, false, false, false, false, false, false, false, false], [(1, .ptr 1 0), (2, .ptr 2 0), (3, .ptr 1 2), (4, q2 d), (6, .ptr 1 3), (7, q3 d), (9, .ptr 1 5), (12, .ptr 1 6)], [(1, .var [.d (sD d.nm), .d (cD d.kd), q2 d, q3 d, q4 d, q5 d, q6 d, q7 d, q8 d, q9 d, q10 d, q11 d]), (2, dvZ)])
 | 7 => (14, #[true, true, false, true, false, false, true, true, false, true, false, false, false, false, false, false, false, false, false, false], [(1, .ptr 1 0), (2, .ptr 2 0), (3, .ptr 1 2), (4, q2 d), (6, .ptr 1 3), (9, .ptr 1 5), (10, q5 d), (12, .ptr 1 6)], [(1, .var [.d (sD d.nm), .d (cD d.kd), q2 d, q3 d, q4 d, q5 d, q6 d, q7 d, q8 d, q9 d, q10 d, q11 d]), (2, dvZ)])
 | 8 => (14, #[true, true, false, true, false, false, true, false, false, true, true, false, false, false, false, false, false, false, false, false], [(1, .ptr 1 0), (2, .ptr 2 0), (3, .ptr 1 2), (4, q2 d), (6, .ptr 1 3), (9, .ptr 1 5), (12, .ptr 1 6), (13, q6 d)], [(1, .var [.d (sD d.nm), .d (cD d.kd), q2 d, q3 d, q4 d, q5 d, q6 d, q7 d, q8 d, q9 d, q10 d, q11 d]), (2, dvZ)])
 | 9 => (14, #[true, false, false, true, true, false, true, true, false, true, false, false, false, false, false, false, false, false, false, false], [(1, .ptr 1 0), (2, .ptr 2 0), (3, .ptr 1 2), (6, .ptr 1 3), (7, q3 d), (9, .ptr 1 5), (10, q5 d), (12, .ptr 1 6)], [(1, .var [.d (sD d.nm), .d (cD d.kd), q2 d, q3 d, q4 d, q5 d, q6 d, q7 d, q8 d, q9 d, q10 d, q11 d]), (2, dvZ)])
 | 10 => (14, #[true, false, false, true, true, false, true, false, false, true, true, false, false, false, false, false, false, false, false, false], [(1, .ptr 1 0), (2, .ptr 2 0), (3, .ptr 1 2), (6, .ptr 1 3), (7, q3 d), (9, .ptr 1 5), (12, .ptr 1 6), (13, q6 d)], [(1, .var [.d (sD d.nm), .d (cD d.kd), q2 d, q3 d, q4 d, q5 d, q6 d, q7 d, q8 d, q9 d, q10 d, q11 d]), (2, dvZ)])
 | 11 => (14, #[true, false, false, true, false, false, true, true, false, true, true, false, false, false, false, false, false, false, false, false], [(1, .ptr 1 0), (2, .ptr 2 0), (3, .ptr 1 2), (6, .ptr 1 3), (9, .ptr 1 5), (10, q5 d), (12, .ptr 1 6), (13, q6 d)], [(1, .var [.d (sD d.nm), .d (cD d.kd), q2 d, q3 d, q4 d, q5 d, q6 d, q7 d, q8 d, q9 d, q10 d, q11 d]), (2, dvZ)])
 | 12 => (13, #[true, true, true, true, true, false, true, false, false, true, false, false, false, false, false, false, false, false, false, false], [(1, .ptr 1 0), (2, .ptr 2 0), (3, .ptr 1 2), (4, q2 d), (5, .row 901), (6, .ptr 1 3), (7, q3 d), (9, .ptr 1 5), (12, .ptr 1 6)], [(1, .var [.d (sD d.nm), .d (cD d.kd), q2 d, q3 d, q4 d, q5 d, q6 d, q7 d, q8 d, q9 d, q10 d, q11 d]), (2, dvZ), (901, w1 d)])
 | 13 => (13, #[true, true, true, true, false, false, true, true, false, true, false, false, false, false, false, false, false, false, false, false], [(1, .ptr 1 0), (2, .ptr 2 0), (3, .ptr 1 2), (4, q2 d), (5, .row 901), (6, .ptr 1 3), (9, .ptr 1 5), (10, q5 d), (12, .ptr 1 6)], [(1, .var [.d (sD d.nm), .d (cD d.kd), q2 d, q3 d, q4 d, q5 d, q6 d, q7 d, q8 d, q9 d, q10 d, q11 d]), (2, dvZ), (901, w1 d)])
 | 14 => (13, #[true, true, true, true, false, false, true, false, false, true, true, false, false, false, false, false, false, false, false, false], [(1, .ptr 1 0), (2, .ptr 2 0), (3, .ptr 1 2), (4, q2 d), (5, .row 901), (6, .ptr 1 3), (9, .ptr 1 5), (12, .ptr 1 6), (13, q6 d)], [(1, .var [.d (sD d.nm), .d (cD d.kd), q2 d, q3 d, q4 d, q5 d, q6 d, q7 d, q8 d, q9 d, q10 d, q11 d]), (2, dvZ), (901, w1 d)])
 | 15 => (13, #[true, true, false, true, true, false, true, true, false, true, false, false, false, false, false, false, false, false, false, false], [(1, .ptr 1 0), (2, .ptr 2 0), (3, .ptr 1 2), (4, q2 d), (6, .ptr 1 3), (7, q3 d), (9, .ptr 1 5), (10, q5 d), (12, .ptr 1 6)], [(1, .var [.d (sD d.nm), .d (cD d.kd), q2 d, q3 d, q4 d, q5 d, q6 d, q7 d, q8 d, q9 d, q10 d, q11 d]), (2, dvZ)])
 | 16 => (13, #[true, true, false, true, true, false, true, false, false, true, true, false, false, false, false, false, false, false, false, false], [(1, .ptr 1 0), (2, .ptr 2 0), (3, .ptr 1 2), (4, q2 d), (6, .ptr 1 3), (7, q3 d), (9, .ptr 1 5), (12, .ptr 1 6), (13, q6 d)], [(1, .var [.d (sD d.nm), .d (cD d.kd), q2 d, q3 d, q4 d, q5 d, q6 d, q7 d, q8 d, q9 d, q10 d, q11 d]), (2, dvZ)])
 | 17 => (13, #[true, true, false, true, false, false, true, true, false, true, true, false, false, false, false, false, false, false, false, false], [(1, .ptr 1 0), (2, .ptr 2 0), (3, .ptr 1 2), (4, q2 d), (6, .ptr 1 3), (9, .ptr 1 5), (10, q5 d), (12, .ptr 1 6), (13, q6 d)], [(1, .var [.d (sD d.nm), .d (cD d.kd), q2 d, q3 d, q4 d, q5 d, q6 d, q7 d, q8 d, q9 d, q10 d, q11 d]), (2, dvZ)])
 | 18 => (13, #[true, false, false, true, true, false, true, true, false, true, true, false, false, false, false, false, false, false, false, false], [(1, .ptr 1 0), (2, .ptr 2 0), (3, .ptr 1 2), (6, .ptr 1 3), (7, q3 d), (9, .ptr 1 5), (10, q5 d), (12, .ptr 1 6), (13, q6 d)], [(1, .var [.d (sD d.nm), .d (cD d.kd), q2 d, q3 d, q4 d, q5 d, q6 d, q7 d, q8 d, q9 d, q10 d, q11 d]), (2, dvZ)])
 | 19 => (12, #[true, true, true, true, true, true, true, false, false, true, false, false, false, false, false, false, false, false, false, false], [(1, .ptr 1 0), (2, .ptr 2 0), (3, .ptr 1 2), (4, q2 d), (5, .row 901), (6, .ptr 1 3), (7, q3 d), (8, .row 902), (9, .ptr 1 5), (12, .ptr 1 6)], [(1, .var [.d (sD d.nm), .d (cD d.kd), q2 d, q3 d, q4 d, q5 d, q6 d, q7 d, q8 d, q9 d, q10 d, q11 d]), (2, dvZ), (901, w1 d), (902, w2 d)])
 | 20 => (12, #[true, true, true, true, true, false, true, true, false, true, false, false, false, false, false, false, false, false, false, false], [(1, .ptr 1 0), (2, .ptr 2 0), (3, .ptr 1 2), (4, q2 d), (5, .row 901), (6, .ptr 1 3), (7, q3 d), (9, .ptr 1 5), (10, q5 d), (12, .ptr 1 6)], [(1, .var [.d (sD d.nm), .d (cD d.kd), q2 d, q3 d, q4 d, q5 d, q6 d, q7 d, q8 d, q9 d, q10 d, q11 d]), (2, dvZ), (901, w1 d)])
 | 21 => (12, #[true, true, true, true, true, false, true, false, false, true, true, false, false, false, false, false, false, false, false, false], [(1, .ptr 1 0), (2, .ptr 2 0), (3, .ptr 1 2), (4, q2 d), (5, .row 901), (6, .ptr 1 3), (7, q3 d), (9, .ptr 1 5), (12, .ptr 1 6), (13, q6 d)], [(1, .var [.d (sD d.nm), .d (cD d.kd), q2 d, q3 d, q4 d, q5 d, q6 d, q7 d, q8 d, q9 d, q10 d, q11 d]), (2, dvZ), (901, w1 d)])
 | 22 => (12, #[true, true, true, true, false, false, true, true, false, true, true, false, false, false, false, false, false, false, false, false], [(1, .ptr 1 0), (2, .ptr 2 0), (3, .ptr 1 2), (4, q2 d), (5, .row 901), (6, .ptr 1 3), (9, .ptr 1 5), (10, q5 d), (12, .ptr 1 6), (13, q6 d)], [(1, .var [.d (sD d.nm), .d (cD d.kd), q2 d, q3 d, q4 d, q5 d, q6 d, q7 d, q8 d, q9 d, q10 d, q11 d]), (2, dvZ), (901, w1 d)])
 | 23 => (12, #[true, true, false, true, true, false, true, true, false, true, true, false, false, false, false, false, false, false, false, false], [(1, .ptr 1 0), (2, .ptr 2 0), (3, .ptr 1 2), (4, q2 d), (6, .ptr 1 3), (7, q3 d), (9, .ptr 1 5), (10, q5 d), (12, .ptr 1 6), (13, q6 d)], [(1, .var [.d (sD d.nm), .d (cD d.kd), q2 d, q3 d, q4 d, q5 d, q6 d, q7 d, q8 d, q9 d, q10 d, q11 d]), (2, dvZ)])
 | 24 => (11, #[true, true, true, true, true, true, true, true, false, true, false, false, false, false, false, false, false, false, false, false], [(1, .ptr 1 0), (2, .ptr 2 0), (3, .ptr 1 2), (4, q2 d), (5, .row 901), (6, .ptr 1 3), (7, q3 d), (8, .row 902), (9, .ptr 1 5), (10, q5 d), (12, .ptr 1 6)], [(1, .var [.d (sD d.nm), .d (cD d.kd), q2 d, q3 d, q4 d, q5 d, q6 d, q7 d, q8 d, q9 d, q10 d, q11 d]), (2, dvZ), (901, w1 d), (902, w2 d)])
 | 25 => (11, #[true, true, true, true, true, true, true, false, false, true, true, false, false, false, false, false, false, false, false, false], [(1, .ptr 1 0), (2, .ptr 2 0), (3, .ptr 1 2), (4, q2 d), (5, .row 901), (6, .ptr 1 3), (7, q3 d), (8, .row 902), (9, .ptr 1 5), (12, .ptr 1 6), (13, q6 d)], [(1, .var [.d (sD d.nm), .d (cD d.kd), q2 d, q3 d, q4 d, q5 d, q6 d, q7 d, q8 d, q9 d, q10 d, q11 d]), (2, dvZ), (901, w1 d), (902, w2 d)])
 | 26 => (10, #[true, true, true, true, true, true, true, true, true, true, false, false, false, false, false, false, false, false, false, false], [(1, .ptr 1 0), (2, .ptr 2 0), (3, .ptr 1 2), (4, q2 d), (5, .row 901), (6, .ptr 1 3), (7, q3 d), (8, .row 902), (9, .ptr 1 5), (10, q5 d), (11, .row 903), (12, .ptr 1 6)], [(1, .var [.d (sD d.nm), .d (cD d.kd), q2 d, q3 d, q4 d, q5 d, q6 d, q7 d, q8 d, q9 d, q10 d, q11 d]), (2, dvZ), (901, w1 d), (902, w2 d), (903, w3 d)])
 | 27 => (10, #[true, true, true, true, true, false, true, true, false, true, true, false, true, false, false, false, false, false, false, false], [(1, .ptr 1 0), (2, .ptr 2 0), (3, .ptr 1 2), (4, q2 d), (5, .row 901), (6, .ptr 1 3), (7, q3 d), (9, .ptr 1 5), (10, q5 d), (12, .ptr 1 6), (13, q6 d), (15, .ptr 1 2)], [(1, .var [.d (sD d.nm), .d (cD d.kd), q2 d, q3 d, q4 d, q5 d, q6 d, q7 d, q8 d, q9 d, q10 d, q11 d]), (2, dvZ), (901, w1 d)])
 | 28 => (9, #[true, true, true, true, true, true, true, true, false, true, true, false, true, false, false, false, false, false, false, false], [(1, .ptr 1 0), (2, .ptr 2 0), (3, .ptr 1 2), (4, q2 d), (5, .row 901), (6, .ptr 1 3), (7, q3 d), (8, .row 902), (9, .ptr 1 5), (10, q5 d), (12, .ptr 1 6), (13, q6 d), (15, .ptr 1 2)], [(1, .var [.d (sD d.nm), .d (cD d.kd), q2 d, q3 d, q4 d, q5 d, q6 d, q7 d, q8 d, q9 d, q10 d, q11 d]), (2, dvZ), (901, w1 d), (902, w2 d)])
 | 29 => (8, #[true, true, true, true, true, true, true, true, true, true, true, false, true, false, false, false, false, false, false, false], [(1, .ptr 1 0), (2, .ptr 2 0), (3, .ptr 1 2), (4, q2 d), (5, .row 901), (6, .ptr 1 3), (7, q3 d), (8, .row 902), (9, .ptr 1 5), (10, q5 d), (11, .row 903), (12, .ptr 1 6), (13, q6 d), (15, .ptr 1 2)], [(1, .var [.d (sD d.nm), .d (cD d.kd), q2 d, q3 d, q4 d, q5 d, q6 d, q7 d, q8 d, q9 d, q10 d, q11 d]), (2, dvZ), (901, w1 d), (902, w2 d), (903, w3 d)])
 | 30 => (7, #[true, true, true, true, true, true, true, true, true, true, true, true, true, false, false, false, false, false, false, false], [(1, .ptr 1 0), (2, .ptr 2 0), (3, .ptr 1 2), (4, q2 d), (5, .row 901), (6, .ptr 1 3), (7, q3 d), (8, .row 902), (9, .ptr 1 5), (10, q5 d), (11, .row 903), (12, .ptr 1 6), (13, q6 d), (14, .row 904), (15, .ptr 1 2)], [(1, .var [.d (sD d.nm), .d (cD d.kd), q2 d, q3 d, q4 d, q5 d, q6 d, q7 d, q8 d, q9 d, q10 d, q11 d]), (2, dvZ), (901, w1 d), (902, w2 d), (903, w3 d), (904, w4 d)])
 | 31 => (5, #[true, true, true, true, true, true, true, true, true, true, true, true, true, true, true, false, false, false, false, false], [(1, .ptr 1 0), (2, .ptr 2 0), (3, .ptr 1 2), (4, q2 d), (5, .row 901), (6, .ptr 1 3), (7, q3 d), (8, .row 902), (9, .ptr 1 5), (10, q5 d), (11, .row 903), (12, .ptr 1 6), (13, q6 d), (14, .row 904), (15, .ptr 1 2), (16, .ptr 1 3)], [(1, .var [.d (sD d.nm), .d (cD d.kd), .row 901, q3 d, q4 d, q5 d, q6 d, q7 d, q8 d, q9 d, q10 d, q11 d]), (2, dvZ), (901, w1 d), (902, w2 d), (903, w3 d), (904, w4 d)])
 | 32 => (3, #[true, true, true, true, true, true, true, true, true, true, true, true, true, true, true, true, true, false, false, false], [(1, .ptr 1 0), (2, .ptr 2 0), (3, .ptr 1 2), (4, q2 d), (5, .row 901), (6, .ptr 1 3), (7, q3 d), (8, .row 902), (9, .ptr 1 5), (10, q5 d), (11, .row 903), (12, .ptr 1 6), (13, q6 d), (14, .row 904), (15, .ptr 1 2), (16, .ptr 1 3), (17, .ptr 1 5)], [(1, .var [.d (sD d.nm), .d (cD d.kd), .row 901, .row 902, q4 d, q5 d, q6 d, q7 d, q8 d, q9 d, q10 d, q11 d]), (2, dvZ), (901, w1 d), (902, w2 d), (903, w3 d), (904, w4 d)])
 | 33 => (1, #[true, true, true, true, true, true, true, true, true, true, true, true, true, true, true, true, true, true, true, false], [(1, .ptr 1 0), (2, .ptr 2 0), (3, .ptr 1 2), (4, q2 d), (5, .row 901), (6, .ptr 1 3), (7, q3 d), (8, .row 902), (9, .ptr 1 5), (10, q5 d), (11, .row 903), (12, .ptr 1 6), (13, q6 d), (14, .row 904), (15, .ptr 1 2), (16, .ptr 1 3), (17, .ptr 1 5), (18, .ptr 1 6)], [(1, .var [.d (sD d.nm), .d (cD d.kd), .row 901, .row 902, q4 d, .row 903, q6 d, q7 d, q8 d, q9 d, q10 d, q11 d]), (2, dvZ), (901, w1 d), (902, w2 d), (903, w3 d), (904, w4 d)])
 | 34 => (0, #[true, true, true, true, true, true, true, true, true, true, true, true, true, true, true, true, true, true, true, true], [(1, .ptr 1 0), (2, .ptr 2 0), (3, .ptr 1 2), (4, q2 d), (5, .row 901), (6, .ptr 1 3), (7, q3 d), (8, .row 902), (9, .ptr 1 5), (10, q5 d), (11, .row 903), (12, .ptr 1 6), (13, q6 d), (14, .row 904), (15, .ptr 1 2), (16, .ptr 1 3), (17, .ptr 1 5), (18, .ptr 1 6)], [(1, .var [.d (sD d.nm), .d (cD d.kd), .row 901, .row 902, q4 d, .row 903, .row 904, q7 d, q8 d, q9 d, q10 d, q11 d]), (2, dvZ), (901, w1 d), (902, w2 d), (903, w3 d), (904, w4 d)])
 | _ => (0, #[], [], [])
abbrev twV (nm : List UInt8) (kd : Int) : List AVal := [.d (sD nm), .d (cD kd), .row 901, .row 902, .row 905, .row 903, .row 904, .row 906, .row 907, .row 908, .row 909, .row 910]
abbrev twH (d : Dvc) : Heap := [(901, w1 d), (902, w2 d), (903, w3 d), (904, w4 d), (905, w5 d), (906, w6 d), (907, w7 d), (908, w8 d), (909, w9 d), (910, w10 d)]
set_option maxHeartbeats 32000000 in
theorem zh8 (d : Dvc) (hd : d.ok) : ACall Tryz.prog 26 [dvcA d] [] (fun c h => c = .agg (twV d.nm d.kd) ∧ h = twH d) := by
 have h1 := zhm 901 rfl d.vrfs hd.b2
 have h2 := zhs 902 rfl d.ifs hd.b3
 have h3 := zho 903 rfl d.rws hd.b5
 have h4 := zhn 904 rfl d.sts hd.b6
 have h5 := zf9 905 rfl 93 d.fils (fun x hx => zic x (hd.fils x hx)) hd.b4
 have h6 := ze1 906 rfl 96 d.pls (fun x hx => zgw x (hd.pls x hx).2) hd.b7
 have h7 := ze2 907 rfl 99 d.cls (fun x hx => zgx x (hd.cls x hx).2 fun m hm => ((hd.cls x hx).1 m hm).2) hd.b8
 have h8 := zf6 908 rfl 104 d.pols (fun x hx => zh9 x (hd.pols x hx).2 fun c hm => ⟨((hd.pols x hx).1 c hm).b1, ((hd.pols x hx).1 c hm).b2⟩) hd.b9
 have h9 := zf7 909 rfl 108 d.osp (fun x hx => zia x (hd.osp x hx)) hd.b10
 have h10 := zgb 910 rfl 111 d.bgp (fun x hx => zie x (hd.bgp x hx).1 (hd.bgp x hx).2.1 (hd.bgp x hx).2.2) hd.b11
 clear hd
 refine zc za Tryz.func26 rfl Tryz.ntmps26 (congrArg Array.toList Tryz.results26) (by kernel_rfl) rfl ?_
 refine zn ?_
 (first | refine ze ?_ | refine zg rfl mixed (by kernel_rfl) ?_)
 repeat' (first | ((first | apply q_K rfl | apply q_X rfl); (first | exact q_H | fail)) | refine q_d ?_ | refine q_a ?_ | refine q_b ?_ | refine q_e ?_ | refine q_f ?_ | refine q_g ?_ | ((fail_if_success (refine O_wt rfl ?_)); refine O_gs rfl rfl (fun _ => ?_) (fun _ => ?_)) | ((fail_if_success (refine Q_wt rfl ?_)); refine Q_gs rfl rfl (fun _ => ?_) (fun _ => ?_)) | refine zi ?_ | refine zk ?_ | refine q_j ?_ | fail)
 refine zdg [(1, .ptr 1 0), (2, .ptr 2 0)] [(1, .var [.d (sD d.nm), .d (cD d.kd), .row 901, .row 902, q4 d, .row 903, .row 904, q7 d, q8 d, q9 d, q10 d, q11 d]), (2, dvZ), (901, w1 d), (902, w2 d), (903, w3 d), (904, w4 d)] ?_ ?_
 ·skip
  refine zaq [1] mixed ?_
  refine zh0 (twNet d) 35 (fun H => ?_) (by decide) ?_
  ·skip
   apply zM (i := 0) rfl (by kernel_rfl) (by kernel_rfl) (by kernel_rfl) (by repeat (first | exact zH | exact zP | apply zG | apply z1)) rfl rfl rfl
   exact q_8
   apply zM (i := 3) rfl (by kernel_rfl) (by kernel_rfl) (by kernel_rfl) (by repeat (first | exact zH | exact zP | apply zG | apply z1)) rfl rfl rfl
   exact q_8
   apply zM (i := 6) rfl (by kernel_rfl) (by kernel_rfl) (by kernel_rfl) (by repeat (first | exact zH | exact zP | apply zG | apply z1)) rfl rfl rfl
   exact q_8
   apply zM (i := 9) rfl (by kernel_rfl) (by kernel_rfl) (by kernel_rfl) (by repeat (first | exact zH | exact zP | apply zG | apply z1)) rfl rfl rfl
   exact q_8
   exact N_to (nd := twNet d) 0 H rfl rfl rfl ⟨rfl, rfl, rfl, rfl, rfl, rfl, trivial⟩ ⟨rfl, rfl, trivial⟩
  ·intro k hk IH
   match k, hk, IH with
   | 0, _, IH =>
    refine N_at rfl ?_
    refine zjp (j := 1) (k := 4) (l := 7) (m := 10) (by decide +kernel) ?_ ?_ ?_ ?_
    ·apply zl rfl rfl rfl rfl
     exact q_7
     exact N_to (nd := twNet d) 1 (IH 1 (by decide) (by decide)) rfl rfl rfl ⟨rfl, rfl, rfl, rfl, rfl, rfl, rfl, trivial⟩ ⟨rfl, rfl, trivial⟩
    ·apply zl rfl rfl rfl rfl
     exact q_7
     exact N_to (nd := twNet d) 2 (IH 2 (by decide) (by decide)) rfl rfl rfl ⟨rfl, rfl, rfl, rfl, rfl, rfl, rfl, trivial⟩ ⟨rfl, rfl, trivial⟩
    ·apply zl rfl rfl rfl rfl
     exact q_7
     exact N_to (nd := twNet d) 3 (IH 3 (by decide) (by decide)) rfl rfl rfl ⟨rfl, rfl, rfl, rfl, rfl, rfl, rfl, trivial⟩ ⟨rfl, rfl, trivial⟩
    ·apply zl rfl rfl rfl rfl
     exact q_7
     exact N_to (nd := twNet d) 4 (IH 4 (by decide) (by decide)) rfl rfl rfl ⟨rfl, rfl, rfl, rfl, rfl, rfl, rfl, trivial⟩ ⟨rfl, rfl, trivial⟩
   | 1, _, IH =>
    refine N_at rfl ?_
    refine zjp (j := 2) (k := 4) (l := 7) (m := 10) (by decide +kernel) ?_ ?_ ?_ ?_
    ·refine zT (i := 2) rfl rfl rfl rfl rfl rfl h1 rfl ?_
     exact N_to (nd := twNet d) 5 (IH 5 (by decide) (by decide)) rfl rfl rfl ⟨rfl, rfl, rfl, rfl, rfl, rfl, rfl, rfl, trivial⟩ ⟨rfl, rfl, rfl, trivial⟩
    ·apply zl rfl rfl rfl rfl
     exact q_7
     exact N_to (nd := twNet d) 6 (IH 6 (by decide) (by decide)) rfl rfl rfl ⟨rfl, rfl, rfl, rfl, rfl, rfl, rfl, rfl, trivial⟩ ⟨rfl, rfl, trivial⟩
    ·apply zl rfl rfl rfl rfl
     exact q_7
     exact N_to (nd := twNet d) 7 (IH 7 (by decide) (by decide)) rfl rfl rfl ⟨rfl, rfl, rfl, rfl, rfl, rfl, rfl, rfl, trivial⟩ ⟨rfl, rfl, trivial⟩
    ·apply zl rfl rfl rfl rfl
     exact q_7
     exact N_to (nd := twNet d) 8 (IH 8 (by decide) (by decide)) rfl rfl rfl ⟨rfl, rfl, rfl, rfl, rfl, rfl, rfl, rfl, trivial⟩ ⟨rfl, rfl, trivial⟩
   | 2, _, IH =>
    refine N_at rfl ?_
    refine zbP (j := 1) (k := 7) (l := 10) (by decide +kernel) ?_ ?_ ?_
    ·apply zl rfl rfl rfl rfl
     exact q_7
     exact N_to (nd := twNet d) 6 (IH 6 (by decide) (by decide)) rfl rfl rfl ⟨rfl, rfl, rfl, rfl, rfl, rfl, rfl, rfl, trivial⟩ ⟨rfl, rfl, trivial⟩
    ·apply zl rfl rfl rfl rfl
     exact q_7
     exact N_to (nd := twNet d) 9 (IH 9 (by decide) (by decide)) rfl rfl rfl ⟨rfl, rfl, rfl, rfl, rfl, rfl, rfl, rfl, trivial⟩ ⟨rfl, rfl, trivial⟩
    ·apply zl rfl rfl rfl rfl
     exact q_7
     exact N_to (nd := twNet d) 10 (IH 10 (by decide) (by decide)) rfl rfl rfl ⟨rfl, rfl, rfl, rfl, rfl, rfl, rfl, rfl, trivial⟩ ⟨rfl, rfl, trivial⟩
   | 3, _, IH =>
    refine N_at rfl ?_
    refine zbP (j := 1) (k := 4) (l := 10) (by decide +kernel) ?_ ?_ ?_
    ·apply zl rfl rfl rfl rfl
     exact q_7
     exact N_to (nd := twNet d) 7 (IH 7 (by decide) (by decide)) rfl rfl rfl ⟨rfl, rfl, rfl, rfl, rfl, rfl, rfl, rfl, trivial⟩ ⟨rfl, rfl, trivial⟩
    ·apply zl rfl rfl rfl rfl
     exact q_7
     exact N_to (nd := twNet d) 9 (IH 9 (by decide) (by decide)) rfl rfl rfl ⟨rfl, rfl, rfl, rfl, rfl, rfl, rfl, rfl, trivial⟩ ⟨rfl, rfl, trivial⟩
    ·apply zl rfl rfl rfl rfl
     exact q_7
     exact N_to (nd := twNet d) 11 (IH 11 (by decide) (by decide)) rfl rfl rfl ⟨rfl, rfl, rfl, rfl, rfl, rfl, rfl, rfl, trivial⟩ ⟨rfl, rfl, trivial⟩
   | 4, _, IH =>
    refine N_at rfl ?_
    refine zbP (j := 1) (k := 4) (l := 7) (by decide +kernel) ?_ ?_ ?_
    ·apply zl rfl rfl rfl rfl
     exact q_7
     exact N_to (nd := twNet d) 8 (IH 8 (by decide) (by decide)) rfl rfl rfl ⟨rfl, rfl, rfl, rfl, rfl, rfl, rfl, rfl, trivial⟩ ⟨rfl, rfl, trivial⟩
    ·apply zl rfl rfl rfl rfl
     exact q_7
     exact N_to (nd := twNet d) 10 (IH 10 (by decide) (by decide)) rfl rfl rfl ⟨rfl, rfl, rfl, rfl, rfl, rfl, rfl, rfl, trivial⟩ ⟨rfl, rfl, trivial⟩
    ·apply zl rfl rfl rfl rfl
     exact q_7
     exact N_to (nd := twNet d) 11 (IH 11 (by decide) (by decide)) rfl rfl rfl ⟨rfl, rfl, rfl, rfl, rfl, rfl, rfl, rfl, trivial⟩ ⟨rfl, rfl, trivial⟩
   | 5, _, IH =>
    refine N_at rfl ?_
    refine zbP (j := 4) (k := 7) (l := 10) (by decide +kernel) ?_ ?_ ?_
    ·apply zl rfl rfl rfl rfl
     exact q_7
     exact N_to (nd := twNet d) 12 (IH 12 (by decide) (by decide)) rfl rfl rfl ⟨rfl, rfl, rfl, rfl, rfl, rfl, rfl, rfl, rfl, trivial⟩ ⟨rfl, rfl, rfl, trivial⟩
    ·apply zl rfl rfl rfl rfl
     exact q_7
     exact N_to (nd := twNet d) 13 (IH 13 (by decide) (by decide)) rfl rfl rfl ⟨rfl, rfl, rfl, rfl, rfl, rfl, rfl, rfl, rfl, trivial⟩ ⟨rfl, rfl, rfl, trivial⟩
    ·apply zl rfl rfl rfl rfl
     exact q_7
     exact N_to (nd := twNet d) 14 (IH 14 (by decide) (by decide)) rfl rfl rfl ⟨rfl, rfl, rfl, rfl, rfl, rfl, rfl, rfl, rfl, trivial⟩ ⟨rfl, rfl, rfl, trivial⟩
   | 6, _, IH =>
    refine N_at rfl ?_
    refine zbP (j := 2) (k := 7) (l := 10) (by decide +kernel) ?_ ?_ ?_
    ·refine zT (i := 2) rfl rfl rfl rfl rfl rfl h1 rfl ?_
     exact N_to (nd := twNet d) 12 (IH 12 (by decide) (by decide)) rfl rfl rfl ⟨rfl, rfl, rfl, rfl, rfl, rfl, rfl, rfl, rfl, trivial⟩ ⟨rfl, rfl, rfl, trivial⟩
    ·apply zl rfl rfl rfl rfl
     exact q_7
     exact N_to (nd := twNet d) 15 (IH 15 (by decide) (by decide)) rfl rfl rfl ⟨rfl, rfl, rfl, rfl, rfl, rfl, rfl, rfl, rfl, trivial⟩ ⟨rfl, rfl, trivial⟩
    ·apply zl rfl rfl rfl rfl
     exact q_7
     exact N_to (nd := twNet d) 16 (IH 16 (by decide) (by decide)) rfl rfl rfl ⟨rfl, rfl, rfl, rfl, rfl, rfl, rfl, rfl, rfl, trivial⟩ ⟨rfl, rfl, trivial⟩
   | 7, _, IH =>
    refine N_at rfl ?_
    refine zbP (j := 2) (k := 4) (l := 10) (by decide +kernel) ?_ ?_ ?_
    ·refine zT (i := 2) rfl rfl rfl rfl rfl rfl h1 rfl ?_
     exact N_to (nd := twNet d) 13 (IH 13 (by decide) (by decide)) rfl rfl rfl ⟨rfl, rfl, rfl, rfl, rfl, rfl, rfl, rfl, rfl, trivial⟩ ⟨rfl, rfl, rfl, trivial⟩
    ·apply zl rfl rfl rfl rfl
     exact q_7
     exact N_to (nd := twNet d) 15 (IH 15 (by decide) (by decide)) rfl rfl rfl ⟨rfl, rfl, rfl, rfl, rfl, rfl, rfl, rfl, rfl, trivial⟩ ⟨rfl, rfl, trivial⟩
    ·apply zl rfl rfl rfl rfl
     exact q_7
     exact N_to (nd := twNet d) 17 (IH 17 (by decide) (by decide)) rfl rfl rfl ⟨rfl, rfl, rfl, rfl, rfl, rfl, rfl, rfl, rfl, trivial⟩ ⟨rfl, rfl, trivial⟩
   | 8, _, IH =>
    refine N_at rfl ?_
    refine zbP (j := 2) (k := 4) (l := 7) (by decide +kernel) ?_ ?_ ?_
    ·refine zT (i := 2) rfl rfl rfl rfl rfl rfl h1 rfl ?_
     exact N_to (nd := twNet d) 14 (IH 14 (by decide) (by decide)) rfl rfl rfl ⟨rfl, rfl, rfl, rfl, rfl, rfl, rfl, rfl, rfl, trivial⟩ ⟨rfl, rfl, rfl, trivial⟩
    ·apply zl rfl rfl rfl rfl
     exact q_7
     exact N_to (nd := twNet d) 16 (IH 16 (by decide) (by decide)) rfl rfl rfl ⟨rfl, rfl, rfl, rfl, rfl, rfl, rfl, rfl, rfl, trivial⟩ ⟨rfl, rfl, trivial⟩
    ·apply zl rfl rfl rfl rfl
     exact q_7
     exact N_to (nd := twNet d) 17 (IH 17 (by decide) (by decide)) rfl rfl rfl ⟨rfl, rfl, rfl, rfl, rfl, rfl, rfl, rfl, rfl, trivial⟩ ⟨rfl, rfl, trivial⟩
   | 9, _, IH =>
    refine N_at rfl ?_
    refine zak (j := 1) (k := 10) (by decide +kernel) ?_ ?_
    ·apply zl rfl rfl rfl rfl
     exact q_7
     exact N_to (nd := twNet d) 15 (IH 15 (by decide) (by decide)) rfl rfl rfl ⟨rfl, rfl, rfl, rfl, rfl, rfl, rfl, rfl, rfl, trivial⟩ ⟨rfl, rfl, trivial⟩
    ·apply zl rfl rfl rfl rfl
     exact q_7
     exact N_to (nd := twNet d) 18 (IH 18 (by decide) (by decide)) rfl rfl rfl ⟨rfl, rfl, rfl, rfl, rfl, rfl, rfl, rfl, rfl, trivial⟩ ⟨rfl, rfl, trivial⟩
   | 10, _, IH =>
    refine N_at rfl ?_
    refine zak (j := 1) (k := 7) (by decide +kernel) ?_ ?_
    ·apply zl rfl rfl rfl rfl
     exact q_7
     exact N_to (nd := twNet d) 16 (IH 16 (by decide) (by decide)) rfl rfl rfl ⟨rfl, rfl, rfl, rfl, rfl, rfl, rfl, rfl, rfl, trivial⟩ ⟨rfl, rfl, trivial⟩
    ·apply zl rfl rfl rfl rfl
     exact q_7
     exact N_to (nd := twNet d) 18 (IH 18 (by decide) (by decide)) rfl rfl rfl ⟨rfl, rfl, rfl, rfl, rfl, rfl, rfl, rfl, rfl, trivial⟩ ⟨rfl, rfl, trivial⟩
   | 11, _, IH =>
    refine N_at rfl ?_
    refine zak (j := 1) (k := 4) (by decide +kernel) ?_ ?_
    ·apply zl rfl rfl rfl rfl
     exact q_7
     exact N_to (nd := twNet d) 17 (IH 17 (by decide) (by decide)) rfl rfl rfl ⟨rfl, rfl, rfl, rfl, rfl, rfl, rfl, rfl, rfl, trivial⟩ ⟨rfl, rfl, trivial⟩
    ·apply zl rfl rfl rfl rfl
     exact q_7
     exact N_to (nd := twNet d) 18 (IH 18 (by decide) (by decide)) rfl rfl rfl ⟨rfl, rfl, rfl, rfl, rfl, rfl, rfl, rfl, rfl, trivial⟩ ⟨rfl, rfl, trivial⟩
   | 12, _, IH =>
    refine N_at rfl ?_
    refine zbP (j := 5) (k := 7) (l := 10) (by decide +kernel) ?_ ?_ ?_
    ·refine zT (i := 5) rfl rfl rfl rfl rfl rfl h2 rfl ?_
     exact N_to (nd := twNet d) 19 (IH 19 (by decide) (by decide)) rfl rfl rfl ⟨rfl, rfl, rfl, rfl, rfl, rfl, rfl, rfl, rfl, rfl, trivial⟩ ⟨rfl, rfl, rfl, rfl, trivial⟩
    ·apply zl rfl rfl rfl rfl
     exact q_7
     exact N_to (nd := twNet d) 20 (IH 20 (by decide) (by decide)) rfl rfl rfl ⟨rfl, rfl, rfl, rfl, rfl, rfl, rfl, rfl, rfl, rfl, trivial⟩ ⟨rfl, rfl, rfl, trivial⟩
    ·apply zl rfl rfl rfl rfl
     exact q_7
     exact N_to (nd := twNet d) 21 (IH 21 (by decide) (by decide)) rfl rfl rfl ⟨rfl, rfl, rfl, rfl, rfl, rfl, rfl, rfl, rfl, rfl, trivial⟩ ⟨rfl, rfl, rfl, trivial⟩
   | 13, _, IH =>
    refine N_at rfl ?_
    refine zak (j := 4) (k := 10) (by decide +kernel) ?_ ?_
    ·apply zl rfl rfl rfl rfl
     exact q_7
     exact N_to (nd := twNet d) 20 (IH 20 (by decide) (by decide)) rfl rfl rfl ⟨rfl, rfl, rfl, rfl, rfl, rfl, rfl, rfl, rfl, rfl, trivial⟩ ⟨rfl, rfl, rfl, trivial⟩
    ·apply zl rfl rfl rfl rfl
     exact q_7
     exact N_to (nd := twNet d) 22 (IH 22 (by decide) (by decide)) rfl rfl rfl ⟨rfl, rfl, rfl, rfl, rfl, rfl, rfl, rfl, rfl, rfl, trivial⟩ ⟨rfl, rfl, rfl, trivial⟩
   | 14, _, IH =>
    refine N_at rfl ?_
    refine zak (j := 4) (k := 7) (by decide +kernel) ?_ ?_
    ·apply zl rfl rfl rfl rfl
     exact q_7
     exact N_to (nd := twNet d) 21 (IH 21 (by decide) (by decide)) rfl rfl rfl ⟨rfl, rfl, rfl, rfl, rfl, rfl, rfl, rfl, rfl, rfl, trivial⟩ ⟨rfl, rfl, rfl, trivial⟩
    ·apply zl rfl rfl rfl rfl
     exact q_7
     exact N_to (nd := twNet d) 22 (IH 22 (by decide) (by decide)) rfl rfl rfl ⟨rfl, rfl, rfl, rfl, rfl, rfl, rfl, rfl, rfl, rfl, trivial⟩ ⟨rfl, rfl, rfl, trivial⟩
   | 15, _, IH =>
    refine N_at rfl ?_
    refine zak (j := 2) (k := 10) (by decide +kernel) ?_ ?_
    ·refine zT (i := 2) rfl rfl rfl rfl rfl rfl h1 rfl ?_
     exact N_to (nd := twNet d) 20 (IH 20 (by decide) (by decide)) rfl rfl rfl ⟨rfl, rfl, rfl, rfl, rfl, rfl, rfl, rfl, rfl, rfl, trivial⟩ ⟨rfl, rfl, rfl, trivial⟩
    ·apply zl rfl rfl rfl rfl
     exact q_7
     exact N_to (nd := twNet d) 23 (IH 23 (by decide) (by decide)) rfl rfl rfl ⟨rfl, rfl, rfl, rfl, rfl, rfl, rfl, rfl, rfl, rfl, trivial⟩ ⟨rfl, rfl, trivial⟩
   | 16, _, IH =>
    refine N_at rfl ?_
    refine zak (j := 2) (k := 7) (by decide +kernel) ?_ ?_
    ·refine zT (i := 2) rfl rfl rfl rfl rfl rfl h1 rfl ?_
     exact N_to (nd := twNet d) 21 (IH 21 (by decide) (by decide)) rfl rfl rfl ⟨rfl, rfl, rfl, rfl, rfl, rfl, rfl, rfl, rfl, rfl, trivial⟩ ⟨rfl, rfl, rfl, trivial⟩
    ·apply zl rfl rfl rfl rfl
     exact q_7
     exact N_to (nd := twNet d) 23 (IH 23 (by decide) (by decide)) rfl rfl rfl ⟨rfl, rfl, rfl, rfl, rfl, rfl, rfl, rfl, rfl, rfl, trivial⟩ ⟨rfl, rfl, trivial⟩
   | 17, _, IH =>
    refine N_at rfl ?_
    refine zak (j := 2) (k := 4) (by decide +kernel) ?_ ?_
    ·refine zT (i := 2) rfl rfl rfl rfl rfl rfl h1 rfl ?_
     exact N_to (nd := twNet d) 22 (IH 22 (by decide) (by decide)) rfl rfl rfl ⟨rfl, rfl, rfl, rfl, rfl, rfl, rfl, rfl, rfl, rfl, trivial⟩ ⟨rfl, rfl, rfl, trivial⟩
    ·apply zl rfl rfl rfl rfl
     exact q_7
     exact N_to (nd := twNet d) 23 (IH 23 (by decide) (by decide)) rfl rfl rfl ⟨rfl, rfl, rfl, rfl, rfl, rfl, rfl, rfl, rfl, rfl, trivial⟩ ⟨rfl, rfl, trivial⟩
   | 18, _, IH =>
    refine N_at rfl ?_
    refine zh (j := 1) (by decide +kernel) ?_
    ·apply zl rfl rfl rfl rfl
     exact q_7
     exact N_to (nd := twNet d) 23 (IH 23 (by decide) (by decide)) rfl rfl rfl ⟨rfl, rfl, rfl, rfl, rfl, rfl, rfl, rfl, rfl, rfl, trivial⟩ ⟨rfl, rfl, trivial⟩
   | 19, _, IH =>
    refine N_at rfl ?_
    refine zak (j := 7) (k := 10) (by decide +kernel) ?_ ?_
    ·apply zl rfl rfl rfl rfl
     exact q_7
     exact N_to (nd := twNet d) 24 (IH 24 (by decide) (by decide)) rfl rfl rfl ⟨rfl, rfl, rfl, rfl, rfl, rfl, rfl, rfl, rfl, rfl, rfl, trivial⟩ ⟨rfl, rfl, rfl, rfl, trivial⟩
    ·apply zl rfl rfl rfl rfl
     exact q_7
     exact N_to (nd := twNet d) 25 (IH 25 (by decide) (by decide)) rfl rfl rfl ⟨rfl, rfl, rfl, rfl, rfl, rfl, rfl, rfl, rfl, rfl, rfl, trivial⟩ ⟨rfl, rfl, rfl, rfl, trivial⟩
   | 20, _, IH =>
    refine N_at rfl ?_
    refine zak (j := 5) (k := 10) (by decide +kernel) ?_ ?_
    ·refine zT (i := 5) rfl rfl rfl rfl rfl rfl h2 rfl ?_
     exact N_to (nd := twNet d) 24 (IH 24 (by decide) (by decide)) rfl rfl rfl ⟨rfl, rfl, rfl, rfl, rfl, rfl, rfl, rfl, rfl, rfl, rfl, trivial⟩ ⟨rfl, rfl, rfl, rfl, trivial⟩
    ·apply zl rfl rfl rfl rfl
     exact q_7
     apply zM (i := 12) rfl (by kernel_rfl) (by kernel_rfl) (by kernel_rfl) (by repeat (first | exact zH | exact zP | apply zG | apply z1)) rfl rfl rfl
     exact q_8
     exact N_to (nd := twNet d) 27 (IH 27 (by decide) (by decide)) rfl rfl rfl ⟨rfl, rfl, rfl, rfl, rfl, rfl, rfl, rfl, rfl, rfl, rfl, rfl, trivial⟩ ⟨rfl, rfl, rfl, trivial⟩
   | 21, _, IH =>
    refine N_at rfl ?_
    refine zak (j := 5) (k := 7) (by decide +kernel) ?_ ?_
    ·refine zT (i := 5) rfl rfl rfl rfl rfl rfl h2 rfl ?_
     exact N_to (nd := twNet d) 25 (IH 25 (by decide) (by decide)) rfl rfl rfl ⟨rfl, rfl, rfl, rfl, rfl, rfl, rfl, rfl, rfl, rfl, rfl, trivial⟩ ⟨rfl, rfl, rfl, rfl, trivial⟩
    ·apply zl rfl rfl rfl rfl
     exact q_7
     apply zM (i := 12) rfl (by kernel_rfl) (by kernel_rfl) (by kernel_rfl) (by repeat (first | exact zH | exact zP | apply zG | apply z1)) rfl rfl rfl
     exact q_8
     exact N_to (nd := twNet d) 27 (IH 27 (by decide) (by decide)) rfl rfl rfl ⟨rfl, rfl, rfl, rfl, rfl, rfl, rfl, rfl, rfl, rfl, rfl, rfl, trivial⟩ ⟨rfl, rfl, rfl, trivial⟩
   | 22, _, IH =>
    refine N_at rfl ?_
    refine zh (j := 4) (by decide +kernel) ?_
    ·apply zl rfl rfl rfl rfl
     exact q_7
     apply zM (i := 12) rfl (by kernel_rfl) (by kernel_rfl) (by kernel_rfl) (by repeat (first | exact zH | exact zP | apply zG | apply z1)) rfl rfl rfl
     exact q_8
     exact N_to (nd := twNet d) 27 (IH 27 (by decide) (by decide)) rfl rfl rfl ⟨rfl, rfl, rfl, rfl, rfl, rfl, rfl, rfl, rfl, rfl, rfl, rfl, trivial⟩ ⟨rfl, rfl, rfl, trivial⟩
   | 23, _, IH =>
    refine N_at rfl ?_
    refine zh (j := 2) (by decide +kernel) ?_
    ·refine zT (i := 2) rfl rfl rfl rfl rfl rfl h1 rfl ?_
     apply zM (i := 12) rfl (by kernel_rfl) (by kernel_rfl) (by kernel_rfl) (by repeat (first | exact zH | exact zP | apply zG | apply z1)) rfl rfl rfl
     exact q_8
     exact N_to (nd := twNet d) 27 (IH 27 (by decide) (by decide)) rfl rfl rfl ⟨rfl, rfl, rfl, rfl, rfl, rfl, rfl, rfl, rfl, rfl, rfl, rfl, trivial⟩ ⟨rfl, rfl, rfl, trivial⟩
   | 24, _, IH =>
    refine N_at rfl ?_
    refine zak (j := 8) (k := 10) (by decide +kernel) ?_ ?_
    ·refine zT (i := 8) rfl rfl rfl rfl rfl rfl h3 rfl ?_
     exact N_to (nd := twNet d) 26 (IH 26 (by decide) (by decide)) rfl rfl rfl ⟨rfl, rfl, rfl, rfl, rfl, rfl, rfl, rfl, rfl, rfl, rfl, rfl, trivial⟩ ⟨rfl, rfl, rfl, rfl, rfl, trivial⟩
    ·apply zl rfl rfl rfl rfl
     exact q_7
     apply zM (i := 12) rfl (by kernel_rfl) (by kernel_rfl) (by kernel_rfl) (by repeat (first | exact zH | exact zP | apply zG | apply z1)) rfl rfl rfl
     exact q_8
     exact N_to (nd := twNet d) 28 (IH 28 (by decide) (by decide)) rfl rfl rfl ⟨rfl, rfl, rfl, rfl, rfl, rfl, rfl, rfl, rfl, rfl, rfl, rfl, rfl, trivial⟩ ⟨rfl, rfl, rfl, rfl, trivial⟩
   | 25, _, IH =>
    refine N_at rfl ?_
    refine zh (j := 7) (by decide +kernel) ?_
    ·apply zl rfl rfl rfl rfl
     exact q_7
     apply zM (i := 12) rfl (by kernel_rfl) (by kernel_rfl) (by kernel_rfl) (by repeat (first | exact zH | exact zP | apply zG | apply z1)) rfl rfl rfl
     exact q_8
     exact N_to (nd := twNet d) 28 (IH 28 (by decide) (by decide)) rfl rfl rfl ⟨rfl, rfl, rfl, rfl, rfl, rfl, rfl, rfl, rfl, rfl, rfl, rfl, rfl, trivial⟩ ⟨rfl, rfl, rfl, rfl, trivial⟩
   | 26, _, IH =>
    refine N_at rfl ?_
    refine zh (j := 10) (by decide +kernel) ?_
    ·apply zl rfl rfl rfl rfl
     exact q_7
     apply zM (i := 12) rfl (by kernel_rfl) (by kernel_rfl) (by kernel_rfl) (by repeat (first | exact zH | exact zP | apply zG | apply z1)) rfl rfl rfl
     exact q_8
     exact N_to (nd := twNet d) 29 (IH 29 (by decide) (by decide)) rfl rfl rfl ⟨rfl, rfl, rfl, rfl, rfl, rfl, rfl, rfl, rfl, rfl, rfl, rfl, rfl, rfl, trivial⟩ ⟨rfl, rfl, rfl, rfl, rfl, trivial⟩
   | 27, _, IH =>
    refine N_at rfl ?_
    refine zh (j := 5) (by decide +kernel) ?_
    ·refine zT (i := 5) rfl rfl rfl rfl rfl rfl h2 rfl ?_
     exact N_to (nd := twNet d) 28 (IH 28 (by decide) (by decide)) rfl rfl rfl ⟨rfl, rfl, rfl, rfl, rfl, rfl, rfl, rfl, rfl, rfl, rfl, rfl, rfl, trivial⟩ ⟨rfl, rfl, rfl, rfl, trivial⟩
   | 28, _, IH =>
    refine N_at rfl ?_
    refine zh (j := 8) (by decide +kernel) ?_
    ·refine zT (i := 8) rfl rfl rfl rfl rfl rfl h3 rfl ?_
     exact N_to (nd := twNet d) 29 (IH 29 (by decide) (by decide)) rfl rfl rfl ⟨rfl, rfl, rfl, rfl, rfl, rfl, rfl, rfl, rfl, rfl, rfl, rfl, rfl, rfl, trivial⟩ ⟨rfl, rfl, rfl, rfl, rfl, trivial⟩
   | 29, _, IH =>
    refine N_at rfl ?_
    refine zh (j := 11) (by decide +kernel) ?_
    ·refine zT (i := 11) rfl rfl rfl rfl rfl rfl h4 rfl ?_
     exact N_to (nd := twNet d) 30 (IH 30 (by decide) (by decide)) rfl rfl rfl ⟨rfl, rfl, rfl, rfl, rfl, rfl, rfl, rfl, rfl, rfl, rfl, rfl, rfl, rfl, rfl, trivial⟩ ⟨rfl, rfl, rfl, rfl, rfl, rfl, trivial⟩
   | 30, _, IH =>
    refine N_at rfl ?_
    refine zh (j := 13) (by decide +kernel) ?_
    ·refine zai za rfl rfl rfl rfl rfl rfl rfl rfl rfl rfl rfl rfl rfl ?_
     apply zM (i := 14) rfl (by kernel_rfl) (by kernel_rfl) (by kernel_rfl) (by repeat (first | exact zH | exact zP | apply zG | apply z1)) rfl rfl rfl
     exact q_8
     exact N_to (nd := twNet d) 31 (IH 31 (by decide) (by decide)) rfl rfl rfl ⟨rfl, rfl, rfl, rfl, rfl, rfl, rfl, rfl, rfl, rfl, rfl, rfl, rfl, rfl, rfl, rfl, trivial⟩ ⟨rfl, rfl, rfl, rfl, rfl, rfl, trivial⟩
   | 31, _, IH =>
    refine N_at rfl ?_
    refine zh (j := 15) (by decide +kernel) ?_
    ·refine zai za rfl rfl rfl rfl rfl rfl rfl rfl rfl rfl rfl rfl rfl ?_
     apply zM (i := 16) rfl (by kernel_rfl) (by kernel_rfl) (by kernel_rfl) (by repeat (first | exact zH | exact zP | apply zG | apply z1)) rfl rfl rfl
     exact q_8
     exact N_to (nd := twNet d) 32 (IH 32 (by decide) (by decide)) rfl rfl rfl ⟨rfl, rfl, rfl, rfl, rfl, rfl, rfl, rfl, rfl, rfl, rfl, rfl, rfl, rfl, rfl, rfl, rfl, trivial⟩ ⟨rfl, rfl, rfl, rfl, rfl, rfl, trivial⟩
   | 32, _, IH =>
    refine N_at rfl ?_
    refine zh (j := 17) (by decide +kernel) ?_
    ·refine zai za rfl rfl rfl rfl rfl rfl rfl rfl rfl rfl rfl rfl rfl ?_
     apply zM (i := 18) rfl (by kernel_rfl) (by kernel_rfl) (by kernel_rfl) (by repeat (first | exact zH | exact zP | apply zG | apply z1)) rfl rfl rfl
     exact q_8
     exact N_to (nd := twNet d) 33 (IH 33 (by decide) (by decide)) rfl rfl rfl ⟨rfl, rfl, rfl, rfl, rfl, rfl, rfl, rfl, rfl, rfl, rfl, rfl, rfl, rfl, rfl, rfl, rfl, rfl, trivial⟩ ⟨rfl, rfl, rfl, rfl, rfl, rfl, trivial⟩
   | 33, _, IH =>
    refine N_at rfl ?_
    refine zh (j := 19) (by decide +kernel) ?_
    ·refine zai za rfl rfl rfl rfl rfl rfl rfl rfl rfl rfl rfl rfl rfl ?_
     exact N_to (nd := twNet d) 34 (IH 34 (by decide) (by decide)) rfl rfl rfl ⟨rfl, rfl, rfl, rfl, rfl, rfl, rfl, rfl, rfl, rfl, rfl, rfl, rfl, rfl, rfl, rfl, rfl, rfl, trivial⟩ ⟨rfl, rfl, rfl, rfl, rfl, rfl, trivial⟩
   | 34, _, IH =>
    refine N_at rfl ?_
    refine zaz (by decide +kernel) ?_
    refine q_j ?_
    exact q_S
   | k + 35, hk, _ => exact absurd hk (by omega)
 ·skip
  refine zF [(1, .ptr 1 0), (2, .ptr 2 0)] [(1, .var [.d (sD d.nm), .d (cD d.kd), .row 901, .row 902, .row 905, .row 903, .row 904, q7 d, q8 d, q9 d, q10 d, q11 d]), (2, dvZ), (901, w1 d), (902, w2 d), (903, w3 d), (904, w4 d), (905, w5 d)] ?_ ?_
  ·
   (first | refine ze ?_ | refine zg rfl mixed (by kernel_rfl) ?_)
   repeat' (first | ((first | apply q_K rfl | apply q_X rfl); (first | exact q_H | fail)) | refine q_d ?_ | refine q_a ?_ | refine q_b ?_ | refine q_e ?_ | refine q_f ?_ | refine q_g ?_ | ((fail_if_success (refine O_wt rfl ?_)); refine O_gs rfl rfl (fun _ => ?_) (fun _ => ?_)) | ((fail_if_success (refine Q_wt rfl ?_)); refine Q_gs rfl rfl (fun _ => ?_) (fun _ => ?_)) | refine zi ?_ | refine zk ?_ | refine q_j ?_ | (refine zaJ rfl rfl rfl rfl rfl h5 rfl ?_))
   exact q_S
  refine zF [(1, .ptr 1 0), (2, .ptr 2 0)] [(1, .var [.d (sD d.nm), .d (cD d.kd), .row 901, .row 902, .row 905, .row 903, .row 904, .row 906, q8 d, q9 d, q10 d, q11 d]), (2, dvZ), (901, w1 d), (902, w2 d), (903, w3 d), (904, w4 d), (905, w5 d), (906, w6 d)] ?_ ?_
  ·
   (first | refine ze ?_ | refine zg rfl mixed (by kernel_rfl) ?_)
   repeat' (first | ((first | apply q_K rfl | apply q_X rfl); (first | exact q_H | fail)) | refine q_d ?_ | refine q_a ?_ | refine q_b ?_ | refine q_e ?_ | refine q_f ?_ | refine q_g ?_ | ((fail_if_success (refine O_wt rfl ?_)); refine O_gs rfl rfl (fun _ => ?_) (fun _ => ?_)) | ((fail_if_success (refine Q_wt rfl ?_)); refine Q_gs rfl rfl (fun _ => ?_) (fun _ => ?_)) | refine zi ?_ | refine zk ?_ | refine q_j ?_ | (refine zaJ rfl rfl rfl rfl rfl h6 rfl ?_))
   exact q_S
  refine zF [(1, .ptr 1 0), (2, .ptr 2 0)] [(1, .var [.d (sD d.nm), .d (cD d.kd), .row 901, .row 902, .row 905, .row 903, .row 904, .row 906, .row 907, q9 d, q10 d, q11 d]), (2, dvZ), (901, w1 d), (902, w2 d), (903, w3 d), (904, w4 d), (905, w5 d), (906, w6 d), (907, w7 d)] ?_ ?_
  ·
   (first | refine ze ?_ | refine zg rfl mixed (by kernel_rfl) ?_)
   repeat' (first | ((first | apply q_K rfl | apply q_X rfl); (first | exact q_H | fail)) | refine q_d ?_ | refine q_a ?_ | refine q_b ?_ | refine q_e ?_ | refine q_f ?_ | refine q_g ?_ | ((fail_if_success (refine O_wt rfl ?_)); refine O_gs rfl rfl (fun _ => ?_) (fun _ => ?_)) | ((fail_if_success (refine Q_wt rfl ?_)); refine Q_gs rfl rfl (fun _ => ?_) (fun _ => ?_)) | refine zi ?_ | refine zk ?_ | refine q_j ?_ | (refine zaJ rfl rfl rfl rfl rfl h7 rfl ?_))
   exact q_S
  refine zF [(1, .ptr 1 0), (2, .ptr 2 0)] [(1, .var [.d (sD d.nm), .d (cD d.kd), .row 901, .row 902, .row 905, .row 903, .row 904, .row 906, .row 907, .row 908, q10 d, q11 d]), (2, dvZ), (901, w1 d), (902, w2 d), (903, w3 d), (904, w4 d), (905, w5 d), (906, w6 d), (907, w7 d), (908, w8 d)] ?_ ?_
  ·
   (first | refine ze ?_ | refine zg rfl mixed (by kernel_rfl) ?_)
   repeat' (first | ((first | apply q_K rfl | apply q_X rfl); (first | exact q_H | fail)) | refine q_d ?_ | refine q_a ?_ | refine q_b ?_ | refine q_e ?_ | refine q_f ?_ | refine q_g ?_ | ((fail_if_success (refine O_wt rfl ?_)); refine O_gs rfl rfl (fun _ => ?_) (fun _ => ?_)) | ((fail_if_success (refine Q_wt rfl ?_)); refine Q_gs rfl rfl (fun _ => ?_) (fun _ => ?_)) | refine zi ?_ | refine zk ?_ | refine q_j ?_ | (refine zaJ rfl rfl rfl rfl rfl h8 rfl ?_))
   exact q_S
  refine zF [(1, .ptr 1 0), (2, .ptr 2 0)] [(1, .var [.d (sD d.nm), .d (cD d.kd), .row 901, .row 902, .row 905, .row 903, .row 904, .row 906, .row 907, .row 908, .row 909, q11 d]), (2, dvZ), (901, w1 d), (902, w2 d), (903, w3 d), (904, w4 d), (905, w5 d), (906, w6 d), (907, w7 d), (908, w8 d), (909, w9 d)] ?_ ?_
  ·
   (first | refine ze ?_ | refine zg rfl mixed (by kernel_rfl) ?_)
   repeat' (first | ((first | apply q_K rfl | apply q_X rfl); (first | exact q_H | fail)) | refine q_d ?_ | refine q_a ?_ | refine q_b ?_ | refine q_e ?_ | refine q_f ?_ | refine q_g ?_ | ((fail_if_success (refine O_wt rfl ?_)); refine O_gs rfl rfl (fun _ => ?_) (fun _ => ?_)) | ((fail_if_success (refine Q_wt rfl ?_)); refine Q_gs rfl rfl (fun _ => ?_) (fun _ => ?_)) | refine zi ?_ | refine zk ?_ | refine q_j ?_ | (refine zaJ rfl rfl rfl rfl rfl h9 rfl ?_))
   exact q_S
  refine zF [(1, .ptr 1 0), (2, .ptr 2 0)] [(1, .var [.d (sD d.nm), .d (cD d.kd), .row 901, .row 902, .row 905, .row 903, .row 904, .row 906, .row 907, .row 908, .row 909, .row 910]), (2, dvZ), (901, w1 d), (902, w2 d), (903, w3 d), (904, w4 d), (905, w5 d), (906, w6 d), (907, w7 d), (908, w8 d), (909, w9 d), (910, w10 d)] ?_ ?_
  ·
   (first | refine ze ?_ | refine zg rfl mixed (by kernel_rfl) ?_)
   repeat' (first | ((first | apply q_K rfl | apply q_X rfl); (first | exact q_H | fail)) | refine q_d ?_ | refine q_a ?_ | refine q_b ?_ | refine q_e ?_ | refine q_f ?_ | refine q_g ?_ | ((fail_if_success (refine O_wt rfl ?_)); refine O_gs rfl rfl (fun _ => ?_) (fun _ => ?_)) | ((fail_if_success (refine Q_wt rfl ?_)); refine Q_gs rfl rfl (fun _ => ?_) (fun _ => ?_)) | refine zi ?_ | refine zk ?_ | refine q_j ?_ | (refine zaJ rfl rfl rfl rfl rfl h10 rfl ?_))
   exact q_S
  repeat (first | refine q_Z ?_ | ((first | apply q_K rfl | apply q_X rfl); (exact q_H)) | refine q_U ?_)
  exact zt AWk.refl rfl (h2 := twH d) ⟨rfl, rfl, rfl, rfl, rfl, rfl, rfl, rfl, rfl, rfl, trivial⟩ ⟨rfl, rfl⟩
end Go.Proofs.YtoahnbmedcjpeaaGreatDoor.Ab
