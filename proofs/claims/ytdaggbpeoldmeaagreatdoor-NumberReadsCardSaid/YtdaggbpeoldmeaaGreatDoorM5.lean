/- Further functions of the program, as code of the abstract evaluator (printed by mkX.py). -/
import Derived.Test.YtdaggbpeoldmeaaGreatDoorM4
import Derived.Test.YtdaggbpeoldmeaaGreatDoorM2
import Derived.Lib.Mul64
set_option maxRecDepth 100000
namespace Go.Ae.R
open AOp Opd C
def a19 : AFn := ⟨96, [.tmp 2], (.seq (.reg [o 2 (.mv (.k (.int .i64 0)))])
  (.seq (.reg [o 8 (m 0),o 3 (m 8)])
  (.seq (.seq (.reg [o 9 (m 3),o 10 (.len .str (.t 9)),o 11 (.bin .gtr .none (.t 10) (.k (.int .i64 0))),o 12 (m 11),g 13 (m 3) 12 true,g 14 (.idxs (.t 13) (.k (.int .i64 0))) 12 true,g 15 (.bin .eql .none (.t 14) (.k (.int .u8 45))) 12 true,o 16 (.pick (.t 12) (.t 15) (.k (.bool false)))])
   (.cond (.t 16) (.reg [o 17 (m 3),o 18 (.sls (.t 17) (some (.k (.int .i64 1))) none),o 3 (m 18)])
   .skip))
  (.seq (.reg [o 19 (m 3),o 20 (.callF 122 [(.t 19)]),o 4 (m 20)])
  (.seq (.seq (.reg [o 21 (m 3),o 22 (m 4),o 23 (.sls (.t 21) none (some (.t 22))),o 24 (.callF 123 [(.t 23)]),o 25 (.un .not (.t 24)),o 26 (m 25),g 27 (m 0) 26 false,g 28 (.idxs (.t 27) (.k (.int .i64 0))) 26 false,g 29 (.bin .eql .none (.t 28) (.k (.int .u8 45))) 26 false,g 30 (m 29) 26 false,g 31 (m 3) 30 true,g 32 (m 4) 30 true,g 33 (.sls (.t 31) none (some (.t 32))) 30 true,g 34 (.bin .eql .none (.t 33) (.k (.str [48]))) 30 true,g 35 (.pick (.t 30) (.t 34) (.k (.bool false))) 26 false,o 36 (.pick (.t 26) (.k (.bool true)) (.t 35))])
   (.cond (.t 36) (.seq (.reg [o 2 (.mv (.k (.int .i64 1)))])
    .ret)
   .skip))
  (.seq (.seq (.reg [o 37 (m 4),o 38 (m 3),o 39 (.len .str (.t 38)),o 40 (.bin .lss .none (.t 37) (.t 39)),o 41 (m 40),g 42 (m 3) 41 true,g 43 (m 4) 41 true,g 44 (.bin .add .none (.t 43) (.k (.int .i64 1))) 41 true,g 45 (.sls (.t 42) (some (.t 44)) none) 41 true,g 46 (.callF 123 [(.t 45)]) 41 true,g 47 (.un .not (.t 46)) 41 true,g 48 (m 47) 41 true,g 49 (m 3) 48 false,g 50 (m 4) 48 false,g 51 (.bin .add .none (.t 50) (.k (.int .i64 1))) 48 false,g 52 (.sls (.t 49) (some (.t 51)) none) 48 false,g 53 (.bin .eql .none (.t 52) (.k (.str [48]))) 48 false,g 54 (.pick (.t 48) (.k (.bool true)) (.t 53)) 41 true,g 55 (m 54) 41 true,g 56 (m 3) 55 false,g 57 (m 4) 55 false,g 58 (.bin .add .none (.t 57) (.k (.int .i64 1))) 55 false,g 59 (.sls (.t 56) (some (.t 58)) none) 55 false,g 60 (.bin .eql .none (.t 59) (.k (.str [49]))) 55 false,g 61 (.pick (.t 55) (.k (.bool true)) (.t 60)) 41 true,o 62 (.pick (.t 41) (.t 61) (.k (.bool false)))])
   (.cond (.t 62) (.seq (.reg [o 2 (.mv (.k (.int .i64 1)))])
    .ret)
   .skip))
  (.seq (.seq (.reg [o 63 (m 4),o 64 (.bin .gtr .none (.t 63) (.k (.int .i64 600))),o 65 (m 64),g 66 (m 3) 65 false,g 67 (.len .str (.t 66)) 65 false,g 68 (m 4) 65 false,g 69 (.bin .sub .none (.t 67) (.t 68)) 65 false,g 70 (.bin .sub .none (.t 69) (.k (.int .i64 1))) 65 false,g 71 (.bin .gtr .none (.t 70) (.k (.int .i64 600))) 65 false,o 72 (.pick (.t 65) (.k (.bool true)) (.t 71))])
   (.cond (.t 72) (.seq (.reg [o 2 (.mv (.k (.int .i64 4)))])
    .ret)
   .skip))
  (.seq (.seq (.reg [o 73 (m 4),o 74 (m 3),o 75 (.len .str (.t 74)),o 76 (.bin .lss .none (.t 73) (.t 75))])
   (.cond (.t 76) (.seq (.reg [o 78 (m 3),o 79 (.callF 124 [(.t 78)]),o 77 (m 79),o 80 (.ext (.t 77) 0),o 81 (.ext (.t 77) 1),o 5 (.alloc [.bool false, .nils]),o 6 (.alloc [.bool false, .nils]),n (.store 2 (.t 5) (.t 80)),n (.store 2 (.t 6) (.t 81))])
    (.seq (.reg [o 82 (.fadr 1 (.t 5)),o 83 (.load false 1 (.t 82)),o 84 (.fadr 1 (.t 6)),o 85 (.load false 1 (.t 84)),o 86 (.callF 125 [(.t 83), (.t 85)]),o 7 (m 86)])
    (.seq (.reg [o 87 (m 7),o 88 (.len .slice (.t 87)),o 89 (.bin .neq .none (.t 88) (.k (.int .i64 1))),o 90 (m 89),g 91 (m 7) 90 false,g 92 (.iadr 1 (.t 91) (.k (.int .i64 0))) 90 false,g 93 (.load false 1 (.t 92)) 90 false,g 94 (.bin .neq .none (.t 93) (.k (.int .i64 1))) 90 false,o 95 (.pick (.t 90) (.k (.bool true)) (.t 94))])
    (.cond (.t 95) (.seq (.reg [o 2 (.mv (.k (.int .i64 1)))])
     .ret)
    .skip))))
   .skip))
  (.seq (.reg [o 2 (.mv (.k (.int .i64 0)))])
  .ret)))))))))⟩
def a20 : AFn := ⟨7, [.tmp 4], (.seq (.reg [o 4 (.mv (.k (.int .i64 0)))])
  (.seq (.seq (.reg [o 5 (m 0)])
   (.cond (.t 5) (.seq (.reg [o 6 (m 1),o 4 (m 6)])
    .ret)
   .skip))
  (.seq (.reg [o 4 (.mv (.k (.int .i64 0)))])
  .ret)))⟩
def a21 : AFn := ⟨13, [.tmp 2], (.seq (.reg [o 2 (.mv (.k (.int .i64 0)))])
  (.seq (.seq (.reg [o 3 (m 0),o 4 (.bin .eql .none (.t 3) (.k (.str [48])))])
   (.cond (.t 4) (.seq (.reg [o 2 (.mv (.k (.int .i64 0)))])
    .ret)
   .skip))
  (.seq (.seq (.reg [o 5 (m 0),o 6 (.len .str (.t 5)),o 7 (.bin .gtr .none (.t 6) (.k (.int .i64 0))),o 8 (m 7),g 9 (m 0) 8 true,g 10 (.idxs (.t 9) (.k (.int .i64 0))) 8 true,g 11 (.bin .eql .none (.t 10) (.k (.int .u8 45))) 8 true,o 12 (.pick (.t 8) (.t 11) (.k (.bool false)))])
   (.cond (.t 12) (.seq (.reg [o 2 (.mv (.k (.int .i64 (-1))))])
    .ret)
   .skip))
  (.seq (.reg [o 2 (.mv (.k (.int .i64 1)))])
  .ret))))⟩
def a22 : AFn := ⟨30, [.tmp 8], (.seq (.reg [o 4 (.box (.t 0)),o 7 (.box (.t 3)),o 8 (.mv (.k (.bool false)))])
  (.seq (.seq (.reg [o 9 (m 2),o 10 (.bin .eql .none (.t 9) (.k (.int .i64 0)))])
   (.cond (.t 10) (.reg [o 11 (.load true 2 (.t 7)),o 12 (.callF 126 [(.t 11)]),o 2 (m 12)])
   .skip))
  (.seq (.seq (.reg [o 13 (m 2),o 14 (.bin .neq .none (.t 13) (.k (.int .i64 0)))])
   (.cond (.t 14) (.seq (.reg [o 15 (.load true 2 (.t 4)),o 16 (.build [.str [], .str []] []),o 17 (.bin .eql (.plain [(0, .str), (1, .str)]) (.t 15) (.t 16)),o 18 (m 17),g 19 (m 1) 18 true,g 20 (m 2) 18 true,g 21 (.bin .eql .none (.t 19) (.t 20)) 18 true,o 22 (.pick (.t 18) (.t 21) (.k (.bool false))),o 8 (m 22)])
    .ret)
   .skip))
  (.seq (.reg [o 23 (m 1),o 24 (.bin .eql .none (.t 23) (.k (.int .i64 0))),o 25 (m 24),g 26 (.load true 2 (.t 4)) 25 true,g 27 (.load true 2 (.t 7)) 25 true,g 28 (.bin .eql (.plain [(0, .str), (1, .str)]) (.t 26) (.t 27)) 25 true,o 29 (.pick (.t 25) (.t 28) (.k (.bool false))),o 8 (m 29)])
  .ret))))⟩
def a25 : AFn := ⟨19, [.tmp 2], (.seq (.reg [o 2 (.mv (.k (.int .i64 0)))])
  (.seq (.seq (.reg [o 3 (.mv (.k (.int .i64 0)))])
   (.block 0 (.loop (.seq (.seq (.reg [o 4 (m 3),o 5 (m 0),o 6 (.len .slice (.t 5)),o 7 (.bin .lss .none (.t 4) (.t 6))])
      (.cond (.t 7) .skip
      (.exit 0)))
     (.seq (.block 1 (.seq (.reg [o 10 (m 0),o 11 (m 3),o 12 (.iadr 1 (.t 10) (.t 11)),o 13 (.load false 1 (.t 12)),o 14 (.bin .neq .none (.t 13) (.k (.int .i64 0)))])
       (.cond (.t 14) (.seq (.reg [o 15 (m 0),o 16 (m 3),o 17 (.iadr 1 (.t 15) (.t 16)),o 18 (.load false 1 (.t 17)),o 2 (m 18)])
        .ret)
       .skip)))
     (.reg [o 8 (m 3),o 9 (.bin .add .none (.t 8) (.k (.int .i64 1))),o 3 (m 9)]))))))
  (.seq (.reg [o 2 (.mv (.k (.int .i64 0)))])
  .ret)))⟩
def a26 : AFn := ⟨37, [.tmp 2], (.seq (.reg [o 2 (.mv (.k (.int .i64 0)))])
  (.seq (.seq (.reg [o 5 (m 0),o 6 (.len .slice (.t 5)),o 7 (.bin .eql .none (.t 6) (.k (.int .i64 0)))])
   (.cond (.t 7) (.seq (.reg [o 2 (.mv (.k (.int .i64 12)))])
    .ret)
   .skip))
  (.seq (.seq (.reg [o 8 (m 0),o 9 (.len .slice (.t 8)),o 10 (.bin .gtr .none (.t 9) (.k (.int .i64 256)))])
   (.cond (.t 10) (.seq (.reg [o 2 (.mv (.k (.int .i64 5)))])
    .ret)
   .skip))
  (.seq (.reg [o 3 (.mv (.k (.int .i64 0)))])
  (.seq (.seq (.reg [o 4 (.mv (.k (.int .i64 0)))])
   (.block 0 (.loop (.seq (.seq (.reg [o 11 (m 4),o 12 (m 0),o 13 (.len .slice (.t 12)),o 14 (.bin .lss .none (.t 11) (.t 13))])
      (.cond (.t 14) .skip
      (.exit 0)))
     (.seq (.block 1 (.seq (.seq (.reg [o 17 (m 0),o 18 (m 4),o 19 (.iadr 1 (.t 17) (.t 18)),o 20 (.load false 1 (.t 19)),o 21 (.bin .lss .none (.t 20) (.k (.int .i64 0))),o 22 (m 21),g 23 (m 0) 22 false,g 24 (m 4) 22 false,g 25 (.iadr 1 (.t 23) (.t 24)) 22 false,g 26 (.load false 1 (.t 25)) 22 false,g 27 (.bin .gtr .none (.t 26) (.k (.int .i64 999999999))) 22 false,o 28 (.pick (.t 22) (.k (.bool true)) (.t 27))])
        (.cond (.t 28) (.seq (.reg [o 2 (.mv (.k (.int .i64 3)))])
         .ret)
        .skip))
       (.reg [o 29 (m 3),o 30 (m 0),o 31 (m 4),o 32 (.iadr 1 (.t 30) (.t 31)),o 33 (.load false 1 (.t 32)),o 34 (.bin .add .none (.t 29) (.t 33)),o 3 (m 34)])))
     (.reg [o 15 (m 4),o 16 (.bin .add .none (.t 15) (.k (.int .i64 1))),o 4 (m 16)]))))))
  (.seq (.seq (.reg [o 35 (m 3),o 36 (.bin .eql .none (.t 35) (.k (.int .i64 0)))])
   (.cond (.t 36) (.seq (.reg [o 2 (.mv (.k (.int .i64 6)))])
    .ret)
   .skip))
  (.seq (.reg [o 2 (.mv (.k (.int .i64 0)))])
  .ret)))))))⟩
def a34 : AFn := ⟨42, [.tmp 4], (.seq (.reg [o 4 (.mv (.k (.int .i64 0)))])
  (.seq (.seq (.reg [o 7 (m 0),o 8 (.len .slice (.t 7)),o 9 (.bin .eql .none (.t 8) (.k (.int .i64 0)))])
   (.cond (.t 9) (.seq (.reg [o 4 (.mv (.k (.int .i64 12)))])
    .ret)
   .skip))
  (.seq (.seq (.reg [o 10 (m 0),o 11 (.len .slice (.t 10)),o 12 (.bin .gtr .none (.t 11) (.k (.int .i64 24)))])
   (.cond (.t 12) (.seq (.reg [o 4 (.mv (.k (.int .i64 5)))])
    .ret)
   .skip))
  (.seq (.seq (.reg [o 5 (.mv (.k (.int .i64 0)))])
   (.block 0 (.loop (.seq (.seq (.reg [o 13 (m 5),o 14 (m 0),o 15 (.len .slice (.t 14)),o 16 (.bin .lss .none (.t 13) (.t 15))])
      (.cond (.t 16) .skip
      (.exit 0)))
     (.seq (.block 1 (.seq (.seq (.reg [o 19 (m 0),o 20 (m 5),o 21 (.iadr 1 (.t 19) (.t 20)),o 22 (.load false 1 (.t 21)),o 23 (.len .slice (.t 22)),o 24 (m 0),o 25 (.len .slice (.t 24)),o 26 (.bin .neq .none (.t 23) (.t 25))])
        (.cond (.t 26) (.seq (.reg [o 4 (.mv (.k (.int .i64 2)))])
         .ret)
        .skip))
       (.seq (.reg [o 27 (m 0),o 28 (m 5),o 29 (.iadr 1 (.t 27) (.t 28)),o 30 (.load false 1 (.t 29)),o 31 (.callF 56 [(.t 30)]),o 6 (m 31)])
       (.seq (.reg [o 32 (m 6),o 33 (.bin .neq .none (.t 32) (.k (.int .i64 0)))])
       (.cond (.t 33) (.seq (.reg [o 34 (m 6),o 4 (m 34)])
        .ret)
       .skip)))))
     (.reg [o 17 (m 5),o 18 (.bin .add .none (.t 17) (.k (.int .i64 1))),o 5 (m 18)]))))))
  (.seq (.seq (.reg [o 35 (m 1),o 36 (.len .slice (.t 35)),o 37 (m 0),o 38 (.len .slice (.t 37)),o 39 (.bin .neq .none (.t 36) (.t 38))])
   (.cond (.t 39) (.seq (.reg [o 4 (.mv (.k (.int .i64 2)))])
    .ret)
   .skip))
  (.seq (.reg [o 40 (m 1),o 41 (.callF 56 [(.t 40)]),o 4 (m 41)])
  .ret))))))⟩
def a35 : AFn := ⟨40, [.tmp 8], (.seq (.reg [o 8 (.mv (.k (.bool false)))])
  (.seq (.seq (.reg [o 10 (m 0),o 11 (.len .slice (.t 10)),o 12 (m 1),o 13 (.bin .gtr .none (.t 11) (.t 12))])
   (.cond (.t 13) (.seq (.reg [o 8 (.mv (.k (.bool false)))])
    .ret)
   .skip))
  (.seq (.seq (.reg [o 9 (.mv (.k (.int .i64 0)))])
   (.block 0 (.loop (.seq (.seq (.reg [o 14 (m 9),o 15 (m 0),o 16 (.len .slice (.t 15)),o 17 (.bin .lss .none (.t 14) (.t 16))])
      (.cond (.t 17) .skip
      (.exit 0)))
     (.seq (.block 1 (.seq (.dreg [o 20 (m 0),o 21 (m 9),o 22 (.iadr 1 (.t 20) (.t 21)),⟨(some 23), .load false 1 (.t 22), none, (some 3)⟩,o 24 (.len .slice (.t 23)),o 25 (m 0),o 26 (.iadr 1 (.t 25) (.k (.int .i64 0))),⟨(some 27), .load false 1 (.t 26), none, (some 7)⟩,o 28 (.len .slice (.t 27)),o 29 (.bin .neq .none (.t 24) (.t 28)),o 30 (m 29),g 31 (m 0) 30 false,g 32 (m 9) 30 false,g 33 (.iadr 1 (.t 31) (.t 32)) 30 false,⟨(some 34), .load false 1 (.t 33), (some (30, false)), (some 14)⟩,g 35 (m 2) 30 false,g 36 (m 3) 30 false,g 37 (.callF 36 [(.t 34), (.t 35), (.t 36)]) 30 false,g 38 (.un .not (.t 37)) 30 false,o 39 (.pick (.t 30) (.k (.bool true)) (.t 38))])
       (.cond (.t 39) (.seq (.reg [o 8 (.mv (.k (.bool false)))])
        .ret)
       .skip)))
     (.reg [o 18 (m 9),o 19 (.bin .add .none (.t 18) (.k (.int .i64 1))),o 9 (m 19)]))))))
  (.seq (.reg [o 8 (.mv (.k (.bool true)))])
  .ret))))⟩
def a36 : AFn := ⟨25, [.tmp 6], (.seq (.reg [o 6 (.mv (.k (.bool false)))])
  (.seq (.seq (.reg [o 8 (m 0),o 9 (.len .slice (.t 8)),o 10 (m 1),o 11 (.bin .gtr .none (.t 9) (.t 10))])
   (.cond (.t 11) (.seq (.reg [o 6 (.mv (.k (.bool false)))])
    .ret)
   .skip))
  (.seq (.seq (.reg [o 7 (.mv (.k (.int .i64 0)))])
   (.block 0 (.loop (.seq (.seq (.reg [o 12 (m 7),o 13 (m 0),o 14 (.len .slice (.t 13)),o 15 (.bin .lss .none (.t 12) (.t 14))])
      (.cond (.t 15) .skip
      (.exit 0)))
     (.seq (.block 1 (.seq (.reg [o 18 (m 0),o 19 (m 7),o 20 (.iadr 1 (.t 18) (.t 19)),o 21 (.load false 1 (.t 20)),o 22 (m 2),o 23 (.callF 135 [(.t 21), (.t 22)]),o 24 (.un .not (.t 23))])
       (.cond (.t 24) (.seq (.reg [o 6 (.mv (.k (.bool false)))])
        .ret)
       .skip)))
     (.reg [o 16 (m 7),o 17 (.bin .add .none (.t 16) (.k (.int .i64 1))),o 7 (m 17)]))))))
  (.seq (.reg [o 6 (.mv (.k (.bool true)))])
  .ret))))⟩
def a47 : AFn := ⟨86, [.tmp 2], (.seq (.reg [o 1 (.box (.t 0)),o 2 (.mv (.k (.int .i64 0)))])
  (.seq (.seq (.reg [o 3 (.fadr 0 (.t 1)),o 4 (.load false 1 (.t 3))])
   (.block 0 (.seq (.reg [o 6 (.bin .eql .none (.t 4) (.k (.str [108, 101, 97, 100]))),o 5 (m 6)])
    (.cond (.t 5) (.seq (.seq (.reg [o 7 (.fadr 1 (.t 1)),o 8 (.load false 1 (.t 7)),o 9 (.bin .lss .none (.t 8) (.k (.int .i64 0))),o 10 (m 9),g 11 (.fadr 1 (.t 1)) 10 false,g 12 (.load false 1 (.t 11)) 10 false,g 13 (.bin .gtr .none (.t 12) (.k (.int .i64 64))) 10 false,o 14 (.pick (.t 10) (.k (.bool true)) (.t 13)),o 15 (m 14),g 16 (.fadr 3 (.t 1)) 15 false,g 17 (.load false 1 (.t 16)) 15 false,g 18 (.bin .lss .none (.t 17) (.k (.int .i64 0))) 15 false,o 19 (.pick (.t 15) (.k (.bool true)) (.t 18)),o 20 (m 19),g 21 (.fadr 3 (.t 1)) 20 false,g 22 (.load false 1 (.t 21)) 20 false,g 23 (.bin .gtr .none (.t 22) (.k (.int .i64 1))) 20 false,o 24 (.pick (.t 20) (.k (.bool true)) (.t 23)),o 25 (m 24),g 26 (.fadr 4 (.t 1)) 25 false,g 27 (.load false 1 (.t 26)) 25 false,g 28 (.bin .neq .none (.t 27) (.k (.int .i64 0))) 25 false,o 29 (.pick (.t 25) (.k (.bool true)) (.t 28))])
      (.cond (.t 29) (.seq (.reg [o 2 (.mv (.k (.int .i64 3)))])
       .ret)
      .skip))
     (.seq (.seq (.reg [o 30 (.fadr 3 (.t 1)),o 31 (.load false 1 (.t 30)),o 32 (.bin .eql .none (.t 31) (.k (.int .i64 1))),o 33 (m 32),g 34 (.fadr 2 (.t 1)) 33 true,g 35 (.load false 1 (.t 34)) 33 true,g 36 (m 35) 33 true,g 37 (.fadr 1 (.t 1)) 36 false,g 38 (.load false 1 (.t 37)) 36 false,g 39 (.bin .neq .none (.t 38) (.k (.int .i64 0))) 36 false,g 40 (.pick (.t 36) (.k (.bool true)) (.t 39)) 33 true,o 41 (.pick (.t 33) (.t 40) (.k (.bool false)))])
      (.cond (.t 41) (.seq (.reg [o 2 (.mv (.k (.int .i64 1)))])
       .ret)
      .skip))
     (.seq (.reg [o 2 (.mv (.k (.int .i64 0)))])
     .ret)))
    (.seq (.reg [o 43 (.bin .eql .none (.t 4) (.k (.str [98, 111, 117, 108, 100, 101, 114]))),o 42 (m 43)])
     (.cond (.t 42) (.seq (.seq (.reg [o 44 (.fadr 1 (.t 1)),o 45 (.load false 1 (.t 44)),o 46 (.bin .neq .none (.t 45) (.k (.int .i64 0))),o 47 (m 46),g 48 (.fadr 3 (.t 1)) 47 false,g 49 (.load false 1 (.t 48)) 47 false,g 50 (.bin .lss .none (.t 49) (.k (.int .i64 0))) 47 false,o 51 (.pick (.t 47) (.k (.bool true)) (.t 50)),o 52 (m 51),g 53 (.fadr 3 (.t 1)) 52 false,g 54 (.load false 1 (.t 53)) 52 false,g 55 (.bin .gtr .none (.t 54) (.k (.int .i64 99))) 52 false,o 56 (.pick (.t 52) (.k (.bool true)) (.t 55)),o 57 (m 56),g 58 (.fadr 4 (.t 1)) 57 false,g 59 (.load false 1 (.t 58)) 57 false,g 60 (.bin .lss .none (.t 59) (.k (.int .i64 0))) 57 false,o 61 (.pick (.t 57) (.k (.bool true)) (.t 60)),o 62 (m 61),g 63 (.fadr 4 (.t 1)) 62 false,g 64 (.load false 1 (.t 63)) 62 false,g 65 (.bin .gtr .none (.t 64) (.k (.int .i64 99))) 62 false,o 66 (.pick (.t 62) (.k (.bool true)) (.t 65))])
       (.cond (.t 66) (.seq (.reg [o 2 (.mv (.k (.int .i64 3)))])
        .ret)
       .skip))
      (.seq (.seq (.reg [o 67 (.fadr 2 (.t 1)),o 68 (.load false 1 (.t 67)),o 69 (m 68),g 70 (.fadr 3 (.t 1)) 69 false,g 71 (.load false 1 (.t 70)) 69 false,g 72 (.bin .gtr .none (.t 71) (.k (.int .i64 0))) 69 false,g 73 (m 72) 69 false,g 74 (.fadr 4 (.t 1)) 73 true,g 75 (.load false 1 (.t 74)) 73 true,g 76 (.bin .eql .none (.t 75) (.k (.int .i64 0))) 73 true,g 77 (m 76) 73 true,g 78 (.fadr 4 (.t 1)) 77 false,g 79 (.load false 1 (.t 78)) 77 false,g 80 (.fadr 3 (.t 1)) 77 false,g 81 (.load false 1 (.t 80)) 77 false,g 82 (.bin .gtr .none (.t 79) (.t 81)) 77 false,g 83 (.pick (.t 77) (.k (.bool true)) (.t 82)) 73 true,g 84 (.pick (.t 73) (.t 83) (.k (.bool false))) 69 false,o 85 (.pick (.t 69) (.k (.bool true)) (.t 84))])
       (.cond (.t 85) (.seq (.reg [o 2 (.mv (.k (.int .i64 1)))])
        .ret)
       .skip))
      (.seq (.reg [o 2 (.mv (.k (.int .i64 0)))])
      .ret)))
     .skip))))))
  (.seq (.reg [o 2 (.mv (.k (.int .i64 13)))])
  .ret)))⟩
def a49 : AFn := ⟨39, [.tmp 2], (.seq (.reg [o 2 (.mv (.k (.int .i64 0)))])
  (.seq (.seq (.reg [o 5 (m 0),o 6 (.len .slice (.t 5)),o 7 (.bin .eql .none (.t 6) (.k (.int .i64 0)))])
   (.cond (.t 7) (.seq (.reg [o 2 (.mv (.k (.int .i64 12)))])
    .ret)
   .skip))
  (.seq (.seq (.reg [o 8 (m 0),o 9 (.len .slice (.t 8)),o 10 (.bin .gtr .none (.t 9) (.k (.int .i64 256)))])
   (.cond (.t 10) (.seq (.reg [o 2 (.mv (.k (.int .i64 5)))])
    .ret)
   .skip))
  (.seq (.seq (.reg [o 3 (.mv (.k (.int .i64 0)))])
   (.block 0 (.loop (.seq (.seq (.reg [o 11 (m 3),o 12 (m 0),o 13 (.len .slice (.t 12)),o 14 (.bin .lss .none (.t 11) (.t 13))])
      (.cond (.t 14) .skip
      (.exit 0)))
     (.seq (.block 1 (.seq (.reg [o 17 (m 0),o 18 (m 3),o 19 (.iadr 5 (.t 17) (.t 18)),o 20 (.load true 5 (.t 19)),o 21 (.callF 47 [(.t 20)]),o 4 (m 21)])
       (.seq (.seq (.dreg [o 22 (m 4),o 23 (.bin .eql .none (.t 22) (.k (.int .i64 0))),o 24 (m 23),g 25 (m 0) 24 true,g 26 (m 3) 24 true,g 27 (.iadr 5 (.t 25) (.t 26)) 24 true,g 28 (.fadr 0 (.t 27)) 24 true,⟨(some 29), .load false 1 (.t 28), (some (24, true)), (some 7)⟩,g 30 (m 0) 24 true,g 31 (.iadr 5 (.t 30) (.k (.int .i64 0))) 24 true,g 32 (.fadr 0 (.t 31)) 24 true,⟨(some 33), .load false 1 (.t 32), (some (24, true)), (some 11)⟩,g 34 (.bin .neq .none (.t 29) (.t 33)) 24 true,o 35 (.pick (.t 24) (.t 34) (.k (.bool false)))])
        (.cond (.t 35) (.reg [o 4 (.mv (.k (.int .i64 13)))])
        .skip))
       (.seq (.reg [o 36 (m 4),o 37 (.bin .neq .none (.t 36) (.k (.int .i64 0)))])
       (.cond (.t 37) (.seq (.reg [o 38 (m 4),o 2 (m 38)])
        .ret)
       .skip)))))
     (.reg [o 15 (m 3),o 16 (.bin .add .none (.t 15) (.k (.int .i64 1))),o 3 (m 16)]))))))
  (.seq (.reg [o 2 (.mv (.k (.int .i64 0)))])
  .ret)))))⟩
def a50 : AFn := ⟨19, [.tmp 2], (.seq (.reg [o 2 (.mv (.k (.nils)))])
  (.seq (.reg [o 3 (.mv (.k (.nils)))])
  (.seq (.seq (.reg [o 4 (.mv (.k (.int .i64 0)))])
   (.block 0 (.loop (.seq (.seq (.reg [o 5 (m 4),o 6 (m 0),o 7 (.len .slice (.t 6)),o 8 (.bin .lss .none (.t 5) (.t 7))])
      (.cond (.t 8) .skip
      (.exit 0)))
     (.seq (.block 1 (.reg [o 11 (m 3),o 12 (m 0),o 13 (m 4),o 14 (.iadr 5 (.t 12) (.t 13)),o 15 (.load true 5 (.t 14)),o 16 (.bslice 5 1 [.str [], .int .i64 0, .bool false, .int .i64 0, .int .i64 0] [(0, 5, (.t 15))]),o 17 (.app 5 48 (.t 11) (.t 16)),o 3 (m 17)]))
     (.reg [o 9 (m 4),o 10 (.bin .add .none (.t 9) (.k (.int .i64 1))),o 4 (m 10)]))))))
  (.seq (.reg [o 18 (m 3),o 2 (m 18)])
  .ret))))⟩
def a54 : AFn := ⟨26, [.tmp 4], (.seq (.reg [o 4 (.mv (.k (.bool false)))])
  (.seq (.seq (.reg [o 6 (m 0),o 7 (.len .slice (.t 6)),o 8 (m 1),o 9 (.len .slice (.t 8)),o 10 (.bin .neq .none (.t 7) (.t 9))])
   (.cond (.t 10) (.seq (.reg [o 4 (.mv (.k (.bool false)))])
    .ret)
   .skip))
  (.seq (.seq (.reg [o 5 (.mv (.k (.int .i64 0)))])
   (.block 0 (.loop (.seq (.seq (.reg [o 11 (m 5),o 12 (m 0),o 13 (.len .slice (.t 12)),o 14 (.bin .lss .none (.t 11) (.t 13))])
      (.cond (.t 14) .skip
      (.exit 0)))
     (.seq (.block 1 (.seq (.dreg [o 17 (m 0),o 18 (m 5),o 19 (.iadr 5 (.t 17) (.t 18)),⟨(some 20), .load true 5 (.t 19), none, (some 3)⟩,o 21 (m 1),o 22 (m 5),o 23 (.iadr 5 (.t 21) (.t 22)),⟨(some 24), .load true 5 (.t 23), none, (some 7)⟩,o 25 (.bin .neq (.plain [(0, .str), (1, .int), (2, .bool), (3, .int), (4, .int)]) (.t 20) (.t 24))])
       (.cond (.t 25) (.seq (.reg [o 4 (.mv (.k (.bool false)))])
        .ret)
       .skip)))
     (.reg [o 15 (m 5),o 16 (.bin .add .none (.t 15) (.k (.int .i64 1))),o 5 (m 16)]))))))
  (.seq (.reg [o 4 (.mv (.k (.bool true)))])
  .ret))))⟩
def a55 : AFn := ⟨10, [.tmp 2], (.seq (.reg [o 2 (.mv (.k (.int .i64 0)))])
  (.seq (.seq (.reg [o 3 (m 0),o 4 (.len .slice (.t 3)),o 5 (.bin .eql .none (.t 4) (.k (.int .i64 0)))])
   (.cond (.t 5) (.seq (.reg [o 2 (.mv (.k (.int .i64 0)))])
    .ret)
   .skip))
  (.seq (.reg [o 6 (m 0),o 7 (.iadr 1 (.t 6) (.k (.int .i64 0))),o 8 (.load false 1 (.t 7)),o 9 (.len .slice (.t 8)),o 2 (m 9)])
  .ret)))⟩
def a56 : AFn := ⟨19, [.tmp 2], (.seq (.reg [o 2 (.mv (.k (.int .i64 0)))])
  (.seq (.seq (.reg [o 3 (.mv (.k (.int .i64 0)))])
   (.block 0 (.loop (.seq (.seq (.reg [o 5 (m 3),o 6 (m 0),o 7 (.len .slice (.t 6)),o 8 (.bin .lss .none (.t 5) (.t 7))])
      (.cond (.t 8) .skip
      (.exit 0)))
     (.seq (.block 1 (.seq (.reg [o 11 (m 0),o 12 (m 3),o 13 (.iadr 1 (.t 11) (.t 12)),o 14 (.load false 1 (.t 13)),o 15 (.callF 19 [(.t 14)]),o 4 (m 15)])
       (.seq (.reg [o 16 (m 4),o 17 (.bin .neq .none (.t 16) (.k (.int .i64 0)))])
       (.cond (.t 17) (.seq (.reg [o 18 (m 4),o 2 (m 18)])
        .ret)
       .skip))))
     (.reg [o 9 (m 3),o 10 (.bin .add .none (.t 9) (.k (.int .i64 1))),o 3 (m 10)]))))))
  (.seq (.reg [o 2 (.mv (.k (.int .i64 0)))])
  .ret)))⟩
def a59 : AFn := ⟨21, [.tmp 2], (.seq (.reg [o 1 (.box (.t 0)),o 2 (.mv (.k (.int .i64 0)))])
  (.seq (.reg [o 4 (.fadr 0 (.t 1)),o 5 (.load false 1 (.t 4)),o 6 (.fadr 1 (.t 1)),o 7 (.load false 1 (.t 6)),o 8 (.bslice 1 2 [.str [], .str []] [(0, 1, (.t 5)), (1, 1, (.t 7))]),o 9 (.callF 56 [(.t 8)]),o 3 (m 9)])
  (.seq (.seq (.reg [o 10 (m 3),o 11 (.bin .eql .none (.t 10) (.k (.int .i64 0))),o 12 (m 11),g 13 (.fadr 0 (.t 1)) 12 true,g 14 (.load false 1 (.t 13)) 12 true,g 15 (.fadr 1 (.t 1)) 12 true,g 16 (.load false 1 (.t 15)) 12 true,g 17 (.callF 75 [(.t 14), (.t 16)]) 12 true,g 18 (.bin .gtr .none (.t 17) (.k (.int .i64 0))) 12 true,o 19 (.pick (.t 12) (.t 18) (.k (.bool false)))])
   (.cond (.t 19) (.reg [o 3 (.mv (.k (.int .i64 11)))])
   .skip))
  (.seq (.reg [o 20 (m 3),o 2 (m 20)])
  .ret))))⟩
def a61 : AFn := ⟨11, [.cell 4 true 2, .tmp 5], (.seq (.reg [o 2 (.box (.t 0)),o 3 (.box (.t 1)),o 4 (.alloc [.str [], .str []]),o 5 (.mv (.k (.int .i64 0)))])
  (.seq (.reg [o 6 (.load true 2 (.t 2)),o 7 (.load true 2 (.t 3)),o 8 (.callF 162 [(.t 6), (.t 7), (.k (.fn 163 []))]),o 9 (.ext (.t 8) 0),o 10 (.ext (.t 8) 1),n (.store 2 (.t 4) (.t 9)),o 5 (m 10)])
  .ret))⟩
def a62 : AFn := ⟨11, [.cell 4 true 2, .tmp 5], (.seq (.reg [o 2 (.box (.t 0)),o 3 (.box (.t 1)),o 4 (.alloc [.str [], .str []]),o 5 (.mv (.k (.int .i64 0)))])
  (.seq (.reg [o 6 (.load true 2 (.t 2)),o 7 (.load true 2 (.t 3)),o 8 (.callF 162 [(.t 6), (.t 7), (.k (.fn 164 []))]),o 9 (.ext (.t 8) 0),o 10 (.ext (.t 8) 1),n (.store 2 (.t 4) (.t 9)),o 5 (m 10)])
  .ret))⟩
def a68 : AFn := ⟨17, [.tmp 4], (.seq (.reg [o 2 (.box (.t 0)),o 4 (.mv (.k (.bool false)))])
  (.seq (.reg [o 5 (.fadr 0 (.t 2)),o 6 (.load false 1 (.t 5)),o 7 (m 1),o 8 (.callF 75 [(.t 6), (.t 7)]),o 9 (.bin .leq .none (.t 8) (.k (.int .i64 0))),o 10 (m 9),g 11 (m 1) 10 true,g 12 (.fadr 1 (.t 2)) 10 true,g 13 (.load false 1 (.t 12)) 10 true,g 14 (.callF 75 [(.t 11), (.t 13)]) 10 true,g 15 (.bin .leq .none (.t 14) (.k (.int .i64 0))) 10 true,o 16 (.pick (.t 10) (.t 15) (.k (.bool false))),o 4 (m 16)])
  .ret))⟩
def a72 : AFn := ⟨63, [.tmp 4], (.seq (.reg [o 4 (.mv (.k (.str [])))])
  (.seq (.reg [o 16 (m 0),o 17 (.callF 168 [(.t 16)]),o 15 (m 17),o 18 (.ext (.t 15) 0),o 19 (.ext (.t 15) 1),o 20 (.ext (.t 15) 2),o 5 (m 18),o 6 (m 19),o 7 (m 20)])
  (.seq (.reg [o 22 (m 1),o 23 (.callF 168 [(.t 22)]),o 21 (m 23),o 24 (.ext (.t 21) 0),o 25 (.ext (.t 21) 1),o 26 (.ext (.t 21) 2),o 8 (m 24),o 9 (m 25),o 10 (m 26)])
  (.seq (.seq (.reg [o 27 (m 7),o 28 (m 27),g 29 (m 10) 28 true,o 30 (.pick (.t 28) (.t 29) (.k (.bool false)))])
   (.cond (.t 30) (.seq (.reg [o 31 (m 5),o 32 (m 9),o 33 (.bin .mul .none (.t 31) (.t 32)),o 34 (m 8),o 35 (m 6),o 36 (.bin .mul .none (.t 34) (.t 35)),o 37 (.bin .add .none (.t 33) (.t 36)),o 38 (m 6),o 39 (m 9),o 40 (.bin .mul .none (.t 38) (.t 39)),o 41 (.callF 99 [(.t 37), (.t 40)]),o 4 (m 41)])
    .ret)
   .skip))
  (.seq (.reg [o 43 (m 0),o 44 (.callF 124 [(.t 43)]),o 42 (m 44),o 45 (.ext (.t 42) 0),o 46 (.ext (.t 42) 1),o 11 (.alloc [.bool false, .nils]),o 12 (.alloc [.bool false, .nils]),n (.store 2 (.t 11) (.t 45)),n (.store 2 (.t 12) (.t 46))])
  (.seq (.reg [o 48 (m 1),o 49 (.callF 124 [(.t 48)]),o 47 (m 49),o 50 (.ext (.t 47) 0),o 51 (.ext (.t 47) 1),o 13 (.alloc [.bool false, .nils]),o 14 (.alloc [.bool false, .nils]),n (.store 2 (.t 13) (.t 50)),n (.store 2 (.t 14) (.t 51))])
  (.seq (.dreg [⟨(some 52), .load true 2 (.t 11), none, (some 0)⟩,⟨(some 53), .load true 2 (.t 14), none, (some 1)⟩,o 54 (.callF 171 [(.t 52), (.t 53)]),⟨(some 55), .load true 2 (.t 13), none, (some 3)⟩,⟨(some 56), .load true 2 (.t 12), none, (some 4)⟩,o 57 (.callF 171 [(.t 55), (.t 56)]),o 58 (.callF 170 [(.t 54), (.t 57)]),⟨(some 59), .load true 2 (.t 12), none, (some 7)⟩,⟨(some 60), .load true 2 (.t 14), none, (some 8)⟩,o 61 (.callF 171 [(.t 59), (.t 60)]),o 62 (.callF 169 [(.t 58), (.t 61)]),o 4 (m 62)])
  .ret)))))))⟩
def a73 : AFn := ⟨9, [.tmp 4], (.seq (.reg [o 4 (.mv (.k (.str [])))])
  (.seq (.reg [o 5 (m 0),o 6 (m 1),o 7 (.callF 172 [(.t 6)]),o 8 (.callF 72 [(.t 5), (.t 7)]),o 4 (m 8)])
  .ret))⟩
def a74 : AFn := ⟨55, [.tmp 4], (.seq (.reg [o 4 (.mv (.k (.str [])))])
  (.seq (.reg [o 16 (m 0),o 17 (.callF 168 [(.t 16)]),o 15 (m 17),o 18 (.ext (.t 15) 0),o 19 (.ext (.t 15) 1),o 20 (.ext (.t 15) 2),o 5 (m 18),o 6 (m 19),o 7 (m 20)])
  (.seq (.reg [o 22 (m 1),o 23 (.callF 168 [(.t 22)]),o 21 (m 23),o 24 (.ext (.t 21) 0),o 25 (.ext (.t 21) 1),o 26 (.ext (.t 21) 2),o 8 (m 24),o 9 (m 25),o 10 (m 26)])
  (.seq (.seq (.reg [o 27 (m 7),o 28 (m 27),g 29 (m 10) 28 true,o 30 (.pick (.t 28) (.t 29) (.k (.bool false)))])
   (.cond (.t 30) (.seq (.reg [o 31 (m 5),o 32 (m 8),o 33 (.bin .mul .none (.t 31) (.t 32)),o 34 (m 6),o 35 (m 9),o 36 (.bin .mul .none (.t 34) (.t 35)),o 37 (.callF 99 [(.t 33), (.t 36)]),o 4 (m 37)])
    .ret)
   .skip))
  (.seq (.reg [o 39 (m 0),o 40 (.callF 124 [(.t 39)]),o 38 (m 40),o 41 (.ext (.t 38) 0),o 42 (.ext (.t 38) 1),o 11 (.alloc [.bool false, .nils]),o 12 (.alloc [.bool false, .nils]),n (.store 2 (.t 11) (.t 41)),n (.store 2 (.t 12) (.t 42))])
  (.seq (.reg [o 44 (m 1),o 45 (.callF 124 [(.t 44)]),o 43 (m 45),o 46 (.ext (.t 43) 0),o 47 (.ext (.t 43) 1),o 13 (.alloc [.bool false, .nils]),o 14 (.alloc [.bool false, .nils]),n (.store 2 (.t 13) (.t 46)),n (.store 2 (.t 14) (.t 47))])
  (.seq (.dreg [⟨(some 48), .load true 2 (.t 11), none, (some 0)⟩,⟨(some 49), .load true 2 (.t 13), none, (some 1)⟩,o 50 (.callF 171 [(.t 48), (.t 49)]),⟨(some 51), .load true 2 (.t 12), none, (some 3)⟩,⟨(some 52), .load true 2 (.t 14), none, (some 4)⟩,o 53 (.callF 171 [(.t 51), (.t 52)]),o 54 (.callF 169 [(.t 50), (.t 53)]),o 4 (m 54)])
  .ret)))))))⟩
def a75 : AFn := ⟨9, [.tmp 4], (.seq (.reg [o 4 (.mv (.k (.int .i64 0)))])
  (.seq (.reg [o 5 (m 0),o 6 (m 1),o 7 (.callF 73 [(.t 5), (.t 6)]),o 8 (.callF 21 [(.t 7)]),o 4 (m 8)])
  .ret))⟩
def a76 : AFn := ⟨9, [.tmp 4], (.seq (.reg [o 4 (.mv (.k (.str [])))])
  (.seq (.reg [o 5 (m 0),o 6 (m 1),o 7 (.callF 173 [(.t 6)]),o 8 (.callF 74 [(.t 5), (.t 7)]),o 4 (m 8)])
  .ret))⟩
def a81 : AFn := ⟨29, [.tmp 8], (.seq (.reg [o 8 (.mv (.k (.bool false)))])
  (.seq (.seq (.reg [o 9 (m 2),o 10 (.bin .eql .none (.t 9) (.k (.int .i64 0)))])
   (.cond (.t 10) (.reg [o 11 (m 3),o 12 (.callF 176 [(.t 11)]),o 2 (m 12)])
   .skip))
  (.seq (.seq (.reg [o 13 (m 2),o 14 (.bin .neq .none (.t 13) (.k (.int .i64 0)))])
   (.cond (.t 14) (.seq (.reg [o 15 (m 0),o 16 (.bin .eql .none (.t 15) (.k (.str []))),o 17 (m 16),g 18 (m 1) 17 true,g 19 (m 2) 17 true,g 20 (.bin .eql .none (.t 18) (.t 19)) 17 true,o 21 (.pick (.t 17) (.t 20) (.k (.bool false))),o 8 (m 21)])
    .ret)
   .skip))
  (.seq (.reg [o 22 (m 1),o 23 (.bin .eql .none (.t 22) (.k (.int .i64 0))),o 24 (m 23),g 25 (m 0) 24 true,g 26 (m 3) 24 true,g 27 (.bin .eql .none (.t 25) (.t 26)) 24 true,o 28 (.pick (.t 24) (.t 27) (.k (.bool false))),o 8 (m 28)])
  .ret))))⟩
def a83 : AFn := ⟨17, [.tmp 4, .tmp 5], (.seq (.reg [o 2 (.box (.t 0)),o 3 (.box (.t 1)),o 4 (.mv (.k (.int .i64 0))),o 5 (.mv (.k (.int .i64 0)))])
  (.seq (.seq (.reg [o 7 (.load true 3 (.t 2)),o 8 (.load true 3 (.t 3)),o 9 (.bslice 3 2 [.int .i64 0, .int .i64 0, .int .i64 0, .int .i64 0, .int .i64 0, .int .i64 0] [(0, 3, (.t 7)), (3, 3, (.t 8))]),o 10 (.callF 177 [(.t 9)]),o 6 (m 10)])
   (.seq (.reg [o 11 (m 6),o 12 (.bin .neq .none (.t 11) (.k (.int .i64 0)))])
   (.cond (.t 12) (.seq (.reg [o 13 (m 6),o 4 (.mv (.k (.int .i64 0))),o 5 (m 13)])
    .ret)
   .skip)))
  (.seq (.reg [o 14 (.load true 3 (.t 2)),o 15 (.load true 3 (.t 3)),o 16 (.callF 178 [(.t 14), (.t 15)]),o 4 (m 16),o 5 (.mv (.k (.int .i64 0)))])
  .ret)))⟩
def a91 : AFn := ⟨6, [.tmp 2], (.seq (.reg [o 2 (.mv (.k (.str [])))])
  (.seq (.reg [o 3 (m 0),o 4 (.callF 182 [(.t 3)]),o 5 (.callF 181 [(.t 4)]),o 2 (m 5)])
  .ret))⟩
def a94 : AFn := ⟨8, [.tmp 2], (.seq (.reg [o 2 (.mv (.k (.bool false)))])
  (.seq (.reg [o 3 (m 0),o 4 (.callF 122 [(.t 3)]),o 5 (m 0),o 6 (.len .str (.t 5)),o 7 (.bin .eql .none (.t 4) (.t 6)),o 2 (m 7)])
  .ret))⟩
def a99 : AFn := ⟨61, [.tmp 4], (.seq (.reg [o 4 (.mv (.k (.str [])))])
  (.seq (.seq (.reg [o 7 (m 0),o 8 (.bin .lss .none (.t 7) (.k (.int .i64 (-4000000000000000000)))),o 9 (m 8),g 10 (m 0) 9 false,g 11 (.bin .gtr .none (.t 10) (.k (.int .i64 4000000000000000000))) 9 false,o 12 (.pick (.t 9) (.k (.bool true)) (.t 11)),o 13 (m 12),g 14 (m 1) 13 false,g 15 (.bin .lss .none (.t 14) (.k (.int .i64 (-4000000000000000000)))) 13 false,o 16 (.pick (.t 13) (.k (.bool true)) (.t 15)),o 17 (m 16),g 18 (m 1) 17 false,g 19 (.bin .gtr .none (.t 18) (.k (.int .i64 4000000000000000000))) 17 false,o 20 (.pick (.t 17) (.k (.bool true)) (.t 19))])
   (.cond (.t 20) (.seq (.reg [o 21 (m 0),o 22 (.callF 182 [(.t 21)]),o 23 (m 1),o 24 (.callF 182 [(.t 23)]),o 25 (.callF 169 [(.t 22), (.t 24)]),o 4 (m 25)])
    .ret)
   .skip))
  (.seq (.seq (.reg [o 26 (m 1),o 27 (.bin .lss .none (.t 26) (.k (.int .i64 0)))])
   (.cond (.t 27) (.reg [o 28 (m 0),o 29 (.bin .sub .none (.k (.int .i64 0)) (.t 28)),o 30 (m 1),o 31 (.bin .sub .none (.k (.int .i64 0)) (.t 30)),o 0 (m 29),o 1 (m 31)])
   .skip))
  (.seq (.reg [o 32 (m 0),o 33 (m 0),o 34 (.bin .sub .none (.k (.int .i64 0)) (.t 33)),o 35 (.mx [(.t 32), (.t 34)]),o 36 (m 1),o 37 (.callF 185 [(.t 35), (.t 36)]),o 5 (m 37)])
  (.seq (.dreg [o 38 (m 0),o 39 (m 5),o 40 (.bin .quo .none (.t 38) (.t 39)),o 41 (m 1),o 42 (m 5),o 43 (.bin .quo .none (.t 41) (.t 42)),o 0 (m 40),o 1 (m 43)])
  (.seq (.reg [o 6 (.mv (.k (.str [])))])
  (.seq (.seq (.reg [o 44 (m 0),o 45 (.bin .lss .none (.t 44) (.k (.int .i64 0)))])
   (.cond (.t 45) (.reg [o 6 (.mv (.k (.str [45])))])
   .skip))
  (.seq (.reg [o 46 (m 6),o 47 (m 0),o 48 (m 0),o 49 (.bin .sub .none (.k (.int .i64 0)) (.t 48)),o 50 (.mx [(.t 47), (.t 49)]),o 51 (.callF 186 [(.t 50), (.k (.int .i64 1))]),o 52 (.bin .add .none (.t 46) (.t 51)),o 6 (m 52)])
  (.seq (.seq (.reg [o 53 (m 1),o 54 (.bin .gtr .none (.t 53) (.k (.int .i64 1)))])
   (.cond (.t 54) (.reg [o 55 (m 6),o 56 (.bin .add .none (.t 55) (.k (.str [47]))),o 57 (m 1),o 58 (.callF 186 [(.t 57), (.k (.int .i64 1))]),o 59 (.bin .add .none (.t 56) (.t 58)),o 6 (m 59)])
   .skip))
  (.seq (.reg [o 60 (m 6),o 4 (m 60)])
  .ret))))))))))⟩
def a100 : AFn := ⟨17, [.tmp 2], (.seq (.reg [o 2 (.mv (.k (.str [])))])
  (.seq (.seq (.reg [o 5 (m 0),o 6 (.callF 94 [(.t 5)])])
   (.cond (.t 6) (.seq (.reg [o 7 (m 0),o 2 (m 7)])
    .ret)
   .skip))
  (.seq (.reg [o 9 (m 0),o 10 (.callF 124 [(.t 9)]),o 8 (m 10),o 11 (.ext (.t 8) 0),o 12 (.ext (.t 8) 1),o 3 (.alloc [.bool false, .nils]),o 4 (.alloc [.bool false, .nils]),n (.store 2 (.t 3) (.t 11)),n (.store 2 (.t 4) (.t 12))])
  (.seq (.reg [o 13 (.load true 2 (.t 3)),o 14 (.load true 2 (.t 4)),o 15 (.callF 187 [(.t 13), (.t 14)]),o 16 (.callF 181 [(.t 15)]),o 2 (m 16)])
  .ret))))⟩
def a107 : AFn := ⟨5, [.tmp 2], (.seq (.reg [o 2 (.mv (.k (.bool false)))])
  (.seq (.reg [o 3 (m 0),o 4 (.bin .eql .none (.t 3) (.k (.str [48]))),o 2 (m 4)])
  .ret))⟩
def a122 : AFn := ⟨17, [.tmp 2], (.seq (.reg [o 2 (.mv (.k (.int .i64 0)))])
  (.seq (.seq (.reg [o 3 (.mv (.k (.int .i64 0)))])
   (.block 0 (.loop (.seq (.seq (.reg [o 4 (m 3),o 5 (m 0),o 6 (.len .str (.t 5)),o 7 (.bin .lss .none (.t 4) (.t 6))])
      (.cond (.t 7) .skip
      (.exit 0)))
     (.seq (.block 1 (.seq (.reg [o 10 (m 0),o 11 (m 3),o 12 (.idxs (.t 10) (.t 11)),o 13 (.bin .eql .none (.t 12) (.k (.int .u8 47)))])
       (.cond (.t 13) (.seq (.reg [o 14 (m 3),o 2 (m 14)])
        .ret)
       .skip)))
     (.reg [o 8 (m 3),o 9 (.bin .add .none (.t 8) (.k (.int .i64 1))),o 3 (m 9)]))))))
  (.seq (.reg [o 15 (m 0),o 16 (.len .str (.t 15)),o 2 (m 16)])
  .ret)))⟩
def a123 : AFn := ⟨18, [.tmp 2], (.seq (.reg [o 2 (.mv (.k (.bool false)))])
  (.seq (.seq (.reg [o 3 (m 0),o 4 (.len .str (.t 3)),o 5 (.bin .eql .none (.t 4) (.k (.int .i64 0))),o 6 (m 5),g 7 (m 0) 6 false,g 8 (.len .str (.t 7)) 6 false,g 9 (.bin .gtr .none (.t 8) (.k (.int .i64 1))) 6 false,g 10 (m 9) 6 false,g 11 (m 0) 10 true,g 12 (.idxs (.t 11) (.k (.int .i64 0))) 10 true,g 13 (.bin .eql .none (.t 12) (.k (.int .u8 48))) 10 true,g 14 (.pick (.t 10) (.t 13) (.k (.bool false))) 6 false,o 15 (.pick (.t 6) (.k (.bool true)) (.t 14))])
   (.cond (.t 15) (.seq (.reg [o 2 (.mv (.k (.bool false)))])
    .ret)
   .skip))
  (.seq (.reg [o 16 (m 0),o 17 (.callF 151 [(.t 16)]),o 2 (m 17)])
  .ret)))⟩
def a124 : AFn := ⟨25, [.cell 2 true 2, .cell 3 true 2], (.seq (.reg [o 2 (.alloc [.bool false, .nils]),o 3 (.alloc [.bool false, .nils])])
  (.seq (.reg [o 6 (m 0),o 4 (m 6)])
  (.seq (.reg [o 7 (m 4),o 8 (.callF 122 [(.t 7)]),o 5 (m 8)])
  (.seq (.seq (.reg [o 9 (m 5),o 10 (m 4),o 11 (.len .str (.t 10)),o 12 (.bin .eql .none (.t 9) (.t 11))])
   (.cond (.t 12) (.seq (.reg [o 13 (m 4),o 14 (.callF 207 [(.t 13)]),o 15 (.callF 182 [(.k (.int .i64 1))]),n (.store 2 (.t 2) (.t 14)),n (.store 2 (.t 3) (.t 15))])
    .ret)
   .skip))
  (.seq (.dreg [o 16 (m 4),o 17 (m 5),o 18 (.sls (.t 16) none (some (.t 17))),o 19 (.callF 207 [(.t 18)]),o 20 (m 4),o 21 (m 5),o 22 (.bin .add .none (.t 21) (.k (.int .i64 1))),o 23 (.sls (.t 20) (some (.t 22)) none),o 24 (.callF 207 [(.t 23)]),n (.store 2 (.t 2) (.t 19)),n (.store 2 (.t 3) (.t 24))])
  .ret)))))⟩
def a125 : AFn := ⟨19, [.tmp 4], (.seq (.reg [o 4 (.mv (.k (.nils)))])
  (.seq (.block 0 (.loop (.seq (.seq (.reg [o 7 (m 1),o 8 (.len .slice (.t 7)),o 9 (.bin .gtr .none (.t 8) (.k (.int .i64 0)))])
      (.cond (.t 9) .skip
      (.exit 0)))
     (.block 1 (.seq (.reg [o 11 (m 0),o 12 (m 1),o 13 (.callF 208 [(.t 11), (.t 12)]),o 10 (m 13),o 14 (.ext (.t 10) 0),o 15 (.ext (.t 10) 1),o 5 (m 14),o 6 (m 15)])
      (.reg [o 16 (m 1),o 17 (m 6),o 0 (m 16),o 1 (m 17)]))))))
  (.seq (.reg [o 18 (m 0),o 4 (m 18)])
  .ret)))⟩
def a126 : AFn := ⟨9, [.tmp 2], (.seq (.reg [o 1 (.box (.t 0)),o 2 (.mv (.k (.int .i64 0)))])
  (.seq (.reg [o 3 (.fadr 0 (.t 1)),o 4 (.load false 1 (.t 3)),o 5 (.fadr 1 (.t 1)),o 6 (.load false 1 (.t 5)),o 7 (.bslice 1 2 [.str [], .str []] [(0, 1, (.t 4)), (1, 1, (.t 6))]),o 8 (.callF 142 [(.t 7)]),o 2 (m 8)])
  .ret))⟩
def a128 : AFn := ⟨7, [.tmp 2], (.seq (.reg [o 2 (.mv (.k (.str [])))])
  (.seq (.reg [o 3 (m 0),o 4 (m 0),o 5 (.callF 122 [(.t 4)]),o 6 (.sls (.t 3) none (some (.t 5))),o 2 (m 6)])
  .ret))⟩
def a129 : AFn := ⟨14, [.tmp 2], (.seq (.reg [o 2 (.mv (.k (.str [])))])
  (.seq (.reg [o 4 (m 0),o 5 (.callF 122 [(.t 4)]),o 3 (m 5)])
  (.seq (.seq (.reg [o 6 (m 3),o 7 (m 0),o 8 (.len .str (.t 7)),o 9 (.bin .eql .none (.t 6) (.t 8))])
   (.cond (.t 9) (.seq (.reg [o 2 (.mv (.k (.str [49])))])
    .ret)
   .skip))
  (.seq (.reg [o 10 (m 0),o 11 (m 3),o 12 (.bin .add .none (.t 11) (.k (.int .i64 1))),o 13 (.sls (.t 10) (some (.t 12)) none),o 2 (m 13)])
  .ret))))⟩
def a135 : AFn := ⟨31, [.tmp 4], (.seq (.reg [o 4 (.mv (.k (.bool false)))])
  (.seq (.reg [o 5 (m 0),o 6 (.len .str (.t 5)),o 7 (m 1),o 8 (.bin .mul .none (.k (.int .i64 2)) (.t 7)),o 9 (.bin .add .none (.t 8) (.k (.int .i64 2))),o 10 (.bin .leq .none (.t 6) (.t 9)),o 11 (m 10),g 12 (m 0) 11 true,g 13 (.callF 19 [(.t 12)]) 11 true,g 14 (.bin .eql .none (.t 13) (.k (.int .i64 0))) 11 true,o 15 (.pick (.t 11) (.t 14) (.k (.bool false))),o 16 (m 15),g 17 (m 0) 16 true,g 18 (.callF 128 [(.t 17)]) 16 true,g 19 (.callF 214 [(.t 18)]) 16 true,g 20 (.len .str (.t 19)) 16 true,g 21 (m 1) 16 true,g 22 (.bin .leq .none (.t 20) (.t 21)) 16 true,o 23 (.pick (.t 16) (.t 22) (.k (.bool false))),o 24 (m 23),g 25 (m 0) 24 true,g 26 (.callF 129 [(.t 25)]) 24 true,g 27 (.len .str (.t 26)) 24 true,g 28 (m 1) 24 true,g 29 (.bin .leq .none (.t 27) (.t 28)) 24 true,o 30 (.pick (.t 24) (.t 29) (.k (.bool false))),o 4 (m 30)])
  .ret))⟩
def a142 : AFn := ⟨16, [.tmp 2], (.seq (.reg [o 2 (.mv (.k (.int .i64 0)))])
  (.seq (.seq (.reg [o 3 (.mv (.k (.int .i64 0)))])
   (.block 0 (.loop (.seq (.seq (.reg [o 4 (m 3),o 5 (m 0),o 6 (.len .slice (.t 5)),o 7 (.bin .lss .none (.t 4) (.t 6))])
      (.cond (.t 7) .skip
      (.exit 0)))
     (.seq (.block 1 (.seq (.reg [o 10 (m 0),o 11 (m 3),o 12 (.iadr 1 (.t 10) (.t 11)),o 13 (.load false 1 (.t 12)),o 14 (.callF 176 [(.t 13)]),o 15 (.bin .neq .none (.t 14) (.k (.int .i64 0)))])
       (.cond (.t 15) (.seq (.reg [o 2 (.mv (.k (.int .i64 4)))])
        .ret)
       .skip)))
     (.reg [o 8 (m 3),o 9 (.bin .add .none (.t 8) (.k (.int .i64 1))),o 3 (m 9)]))))))
  (.seq (.reg [o 2 (.mv (.k (.int .i64 0)))])
  .ret)))⟩
def a168 : AFn := ⟨54, [.tmp 2, .tmp 3, .tmp 4], (.seq (.reg [o 2 (.mv (.k (.int .i64 0))),o 3 (.mv (.k (.int .i64 0))),o 4 (.mv (.k (.bool false)))])
  (.seq (.reg [o 10 (m 0),o 5 (m 10)])
  (.seq (.seq (.reg [o 11 (m 5),o 12 (.len .str (.t 11)),o 13 (.bin .gtr .none (.t 12) (.k (.int .i64 20)))])
   (.cond (.t 13) (.seq (.reg [o 2 (.mv (.k (.int .i64 0))),o 3 (.mv (.k (.int .i64 0))),o 4 (.mv (.k (.bool false)))])
    .ret)
   .skip))
  (.seq (.reg [o 14 (m 5),o 15 (.len .str (.t 14)),o 16 (.bin .gtr .none (.t 15) (.k (.int .i64 0))),o 17 (m 16),g 18 (m 5) 17 true,g 19 (.idxs (.t 18) (.k (.int .i64 0))) 17 true,g 20 (.bin .eql .none (.t 19) (.k (.int .u8 45))) 17 true,o 21 (.pick (.t 17) (.t 20) (.k (.bool false))),o 6 (m 21)])
  (.seq (.seq (.reg [o 22 (m 6)])
   (.cond (.t 22) (.reg [o 23 (m 5),o 24 (.sls (.t 23) (some (.k (.int .i64 1))) none),o 5 (m 24)])
   .skip))
  (.seq (.reg [o 25 (m 5),o 26 (.callF 122 [(.t 25)]),o 7 (m 26)])
  (.seq (.seq (.reg [o 27 (m 7),o 28 (.bin .gtr .none (.t 27) (.k (.int .i64 9))),o 29 (m 28),g 30 (m 5) 29 false,g 31 (.len .str (.t 30)) 29 false,g 32 (m 7) 29 false,g 33 (.bin .sub .none (.t 31) (.t 32)) 29 false,g 34 (.bin .gtr .none (.t 33) (.k (.int .i64 10))) 29 false,o 35 (.pick (.t 29) (.k (.bool true)) (.t 34))])
   (.cond (.t 35) (.seq (.reg [o 2 (.mv (.k (.int .i64 0))),o 3 (.mv (.k (.int .i64 0))),o 4 (.mv (.k (.bool false)))])
    .ret)
   .skip))
  (.seq (.reg [o 36 (m 5),o 37 (m 7),o 38 (.sls (.t 36) none (some (.t 37))),o 39 (.callF 153 [(.t 38)]),o 8 (m 39),o 9 (.mv (.k (.int .i64 1)))])
  (.seq (.seq (.reg [o 40 (m 7),o 41 (m 5),o 42 (.len .str (.t 41)),o 43 (.bin .lss .none (.t 40) (.t 42))])
   (.cond (.t 43) (.reg [o 44 (m 5),o 45 (m 7),o 46 (.bin .add .none (.t 45) (.k (.int .i64 1))),o 47 (.sls (.t 44) (some (.t 46)) none),o 48 (.callF 153 [(.t 47)]),o 9 (m 48)])
   .skip))
  (.seq (.seq (.reg [o 49 (m 6)])
   (.cond (.t 49) (.reg [o 50 (m 8),o 51 (.bin .sub .none (.k (.int .i64 0)) (.t 50)),o 8 (m 51)])
   .skip))
  (.seq (.reg [o 52 (m 8),o 53 (m 9),o 2 (m 52),o 3 (m 53),o 4 (.mv (.k (.bool true)))])
  .ret)))))))))))⟩
def a169 : AFn := ⟨57, [.tmp 4], (.seq (.reg [o 2 (.box (.t 0)),o 3 (.box (.t 1)),o 4 (.mv (.k (.str [])))])
  (.seq (.seq (.reg [o 11 (.fadr 0 (.t 3)),o 12 (.load false 1 (.t 11))])
   (.cond (.t 12) (.dreg [⟨(some 13), .load true 2 (.t 2), none, (some 0)⟩,o 14 (.callF 248 [(.t 13)]),⟨(some 15), .load true 2 (.t 3), none, (some 2)⟩,o 16 (.callF 248 [(.t 15)]),n (.store 2 (.t 2) (.t 14)),n (.store 2 (.t 3) (.t 16))])
   .skip))
  (.seq (.reg [o 17 (.fadr 1 (.t 2)),o 18 (.load false 1 (.t 17)),o 19 (.fadr 1 (.t 3)),o 20 (.load false 1 (.t 19)),o 21 (.callF 125 [(.t 18), (.t 20)]),o 5 (m 21)])
  (.seq (.reg [o 23 (.fadr 1 (.t 2)),o 24 (.load false 1 (.t 23)),o 25 (m 5),o 26 (.callF 208 [(.t 24), (.t 25)]),o 22 (m 26),o 27 (.ext (.t 22) 0),o 28 (.ext (.t 22) 1),o 6 (m 27),o 7 (m 28)])
  (.seq (.reg [o 30 (.fadr 1 (.t 3)),o 31 (.load false 1 (.t 30)),o 32 (m 5),o 33 (.callF 208 [(.t 31), (.t 32)]),o 29 (m 33),o 34 (.ext (.t 29) 0),o 35 (.ext (.t 29) 1),o 8 (m 34),o 9 (m 35)])
  (.seq (.reg [o 36 (.fadr 0 (.t 2)),o 37 (.load false 1 (.t 36)),o 38 (m 6),o 39 (.callF 249 [(.t 37), (.t 38)]),o 40 (.callF 181 [(.t 39)]),o 10 (m 40)])
  (.seq (.seq (.reg [o 41 (m 8),o 42 (.len .slice (.t 41)),o 43 (.bin .eql .none (.t 42) (.k (.int .i64 1))),o 44 (m 43),g 45 (m 8) 44 true,g 46 (.iadr 1 (.t 45) (.k (.int .i64 0))) 44 true,g 47 (.load false 1 (.t 46)) 44 true,g 48 (.bin .eql .none (.t 47) (.k (.int .i64 1))) 44 true,o 49 (.pick (.t 44) (.t 48) (.k (.bool false)))])
   (.cond (.t 49) (.seq (.reg [o 50 (m 10),o 4 (m 50)])
    .ret)
   .skip))
  (.seq (.reg [o 51 (m 10),o 52 (.bin .add .none (.t 51) (.k (.str [47]))),o 53 (m 8),o 54 (.callF 249 [(.k (.bool false)), (.t 53)]),o 55 (.callF 181 [(.t 54)]),o 56 (.bin .add .none (.t 52) (.t 55)),o 4 (m 56)])
  .ret))))))))⟩
def a170 : AFn := ⟨40, [.cell 4 true 2], (.seq (.reg [o 2 (.box (.t 0)),o 3 (.box (.t 1)),o 4 (.alloc [.bool false, .nils])])
  (.seq (.seq (.reg [o 5 (.fadr 0 (.t 2)),o 6 (.load false 1 (.t 5)),o 7 (.fadr 0 (.t 3)),o 8 (.load false 1 (.t 7)),o 9 (.bin .eql .bool (.t 6) (.t 8))])
   (.cond (.t 9) (.seq (.dreg [o 10 (.fadr 0 (.t 2)),⟨(some 11), .load false 1 (.t 10), none, (some 6)⟩,o 12 (.fadr 1 (.t 2)),⟨(some 13), .load false 1 (.t 12), none, (some 3)⟩,o 14 (.fadr 1 (.t 3)),⟨(some 15), .load false 1 (.t 14), none, (some 5)⟩,o 16 (.callF 250 [(.t 13), (.t 15)]),o 17 (.callF 249 [(.t 11), (.t 16)]),n (.store 2 (.t 4) (.t 17))])
    .ret)
   .skip))
  (.seq (.seq (.reg [o 18 (.fadr 1 (.t 2)),o 19 (.load false 1 (.t 18)),o 20 (.fadr 1 (.t 3)),o 21 (.load false 1 (.t 20)),o 22 (.callF 251 [(.t 19), (.t 21)]),o 23 (.bin .geq .none (.t 22) (.k (.int .i64 0)))])
   (.cond (.t 23) (.seq (.dreg [o 24 (.fadr 0 (.t 2)),⟨(some 25), .load false 1 (.t 24), none, (some 6)⟩,o 26 (.fadr 1 (.t 2)),⟨(some 27), .load false 1 (.t 26), none, (some 3)⟩,o 28 (.fadr 1 (.t 3)),⟨(some 29), .load false 1 (.t 28), none, (some 5)⟩,o 30 (.callF 252 [(.t 27), (.t 29)]),o 31 (.callF 249 [(.t 25), (.t 30)]),n (.store 2 (.t 4) (.t 31))])
    .ret)
   .skip))
  (.seq (.dreg [o 32 (.fadr 0 (.t 3)),⟨(some 33), .load false 1 (.t 32), none, (some 6)⟩,o 34 (.fadr 1 (.t 3)),⟨(some 35), .load false 1 (.t 34), none, (some 3)⟩,o 36 (.fadr 1 (.t 2)),⟨(some 37), .load false 1 (.t 36), none, (some 5)⟩,o 38 (.callF 252 [(.t 35), (.t 37)]),o 39 (.callF 249 [(.t 33), (.t 38)]),n (.store 2 (.t 4) (.t 39))])
  .ret))))⟩
def a171 : AFn := ⟨16, [.cell 4 true 2], (.seq (.reg [o 2 (.box (.t 0)),o 3 (.box (.t 1)),o 4 (.alloc [.bool false, .nils])])
  (.seq (.dreg [o 5 (.fadr 0 (.t 2)),⟨(some 6), .load false 1 (.t 5), none, (some 9)⟩,o 7 (.fadr 0 (.t 3)),⟨(some 8), .load false 1 (.t 7), none, (some 9)⟩,o 9 (.bin .neq .bool (.t 6) (.t 8)),o 10 (.fadr 1 (.t 2)),⟨(some 11), .load false 1 (.t 10), none, (some 6)⟩,o 12 (.fadr 1 (.t 3)),⟨(some 13), .load false 1 (.t 12), none, (some 8)⟩,o 14 (.callF 253 [(.t 11), (.t 13)]),o 15 (.callF 249 [(.t 9), (.t 14)]),n (.store 2 (.t 4) (.t 15))])
  .ret))⟩
def a172 : AFn := ⟨14, [.tmp 2], (.seq (.reg [o 2 (.mv (.k (.str [])))])
  (.seq (.seq (.reg [o 3 (m 0),o 4 (.callF 21 [(.t 3)]),o 5 (.bin .lss .none (.t 4) (.k (.int .i64 0)))])
   (.cond (.t 5) (.seq (.reg [o 6 (m 0),o 7 (.sls (.t 6) (some (.k (.int .i64 1))) none),o 2 (m 7)])
    .ret)
   .skip))
  (.seq (.seq (.reg [o 8 (m 0),o 9 (.callF 21 [(.t 8)]),o 10 (.bin .eql .none (.t 9) (.k (.int .i64 0)))])
   (.cond (.t 10) (.seq (.reg [o 11 (m 0),o 2 (m 11)])
    .ret)
   .skip))
  (.seq (.reg [o 12 (m 0),o 13 (.bin .add .none (.k (.str [45])) (.t 12)),o 2 (m 13)])
  .ret))))⟩
def a173 : AFn := ⟨13, [.tmp 2], (.seq (.reg [o 2 (.mv (.k (.str [])))])
  (.seq (.reg [o 6 (m 0),o 7 (.callF 124 [(.t 6)]),o 5 (m 7),o 8 (.ext (.t 5) 0),o 9 (.ext (.t 5) 1),o 3 (.alloc [.bool false, .nils]),o 4 (.alloc [.bool false, .nils]),n (.store 2 (.t 3) (.t 8)),n (.store 2 (.t 4) (.t 9))])
  (.seq (.reg [o 10 (.load true 2 (.t 4)),o 11 (.load true 2 (.t 3)),o 12 (.callF 169 [(.t 10), (.t 11)]),o 2 (m 12)])
  .ret)))⟩
def a176 : AFn := ⟨14, [.tmp 2], (.seq (.reg [o 2 (.mv (.k (.int .i64 0)))])
  (.seq (.seq (.reg [o 3 (m 0),o 4 (.callF 128 [(.t 3)]),o 5 (.callF 214 [(.t 4)]),o 6 (.len .str (.t 5)),o 7 (.bin .gtr .none (.t 6) (.k (.int .i64 600))),o 8 (m 7),g 9 (m 0) 8 false,g 10 (.callF 129 [(.t 9)]) 8 false,g 11 (.len .str (.t 10)) 8 false,g 12 (.bin .gtr .none (.t 11) (.k (.int .i64 600))) 8 false,o 13 (.pick (.t 8) (.k (.bool true)) (.t 12))])
   (.cond (.t 13) (.seq (.reg [o 2 (.mv (.k (.int .i64 4)))])
    .ret)
   .skip))
  (.seq (.reg [o 2 (.mv (.k (.int .i64 0)))])
  .ret)))⟩
def a181 : AFn := ⟨39, [.tmp 2], (.seq (.reg [o 1 (.box (.t 0)),o 2 (.mv (.k (.str [])))])
  (.seq (.seq (.reg [o 5 (.fadr 1 (.t 1)),o 6 (.load false 1 (.t 5)),o 7 (.len .slice (.t 6)),o 8 (.bin .eql .none (.t 7) (.k (.int .i64 0)))])
   (.cond (.t 8) (.seq (.reg [o 2 (.mv (.k (.str [48])))])
    .ret)
   .skip))
  (.seq (.reg [o 9 (.fadr 1 (.t 1)),o 10 (.load false 1 (.t 9)),o 11 (.fadr 1 (.t 1)),o 12 (.load false 1 (.t 11)),o 13 (.len .slice (.t 12)),o 14 (.bin .sub .none (.t 13) (.k (.int .i64 1))),o 15 (.iadr 1 (.t 10) (.t 14)),o 16 (.load false 1 (.t 15)),o 17 (.callF 186 [(.t 16), (.k (.int .i64 1))]),o 3 (m 17)])
  (.seq (.seq (.reg [o 18 (.fadr 1 (.t 1)),o 19 (.load false 1 (.t 18)),o 20 (.len .slice (.t 19)),o 21 (.bin .sub .none (.t 20) (.k (.int .i64 2))),o 4 (m 21)])
   (.block 0 (.loop (.seq (.seq (.reg [o 22 (m 4),o 23 (.bin .geq .none (.t 22) (.k (.int .i64 0)))])
      (.cond (.t 23) .skip
      (.exit 0)))
     (.seq (.block 1 (.reg [o 26 (m 3),o 27 (.fadr 1 (.t 1)),o 28 (.load false 1 (.t 27)),o 29 (m 4),o 30 (.iadr 1 (.t 28) (.t 29)),o 31 (.load false 1 (.t 30)),o 32 (.callF 186 [(.t 31), (.k (.int .i64 9))]),o 33 (.bin .add .none (.t 26) (.t 32)),o 3 (m 33)]))
     (.reg [o 24 (m 4),o 25 (.bin .sub .none (.t 24) (.k (.int .i64 1))),o 4 (m 25)]))))))
  (.seq (.seq (.reg [o 34 (.fadr 0 (.t 1)),o 35 (.load false 1 (.t 34))])
   (.cond (.t 35) (.seq (.reg [o 36 (m 3),o 37 (.bin .add .none (.k (.str [45])) (.t 36)),o 2 (m 37)])
    .ret)
   .skip))
  (.seq (.reg [o 38 (m 3),o 2 (m 38)])
  .ret))))))⟩
def a182 : AFn := ⟨25, [.cell 2 true 2], (.seq (.reg [o 2 (.alloc [.bool false, .nils])])
  (.seq (.reg [o 3 (.mv (.k (.nils)))])
  (.seq (.reg [o 6 (m 0),o 7 (.bin .lss .none (.t 6) (.k (.int .i64 0))),o 4 (m 7)])
  (.seq (.block 0 (.loop (.seq (.seq (.reg [o 8 (m 0),o 9 (.bin .neq .none (.t 8) (.k (.int .i64 0)))])
      (.cond (.t 9) .skip
      (.exit 0)))
     (.block 1 (.seq (.reg [o 10 (m 0),o 11 (.bin .rem .none (.t 10) (.k (.int .i64 1000000000))),o 5 (m 11)])
      (.seq (.seq (.reg [o 12 (m 5),o 13 (.bin .lss .none (.t 12) (.k (.int .i64 0)))])
       (.cond (.t 13) (.reg [o 14 (m 5),o 15 (.bin .sub .none (.k (.int .i64 0)) (.t 14)),o 5 (m 15)])
       .skip))
      (.seq (.reg [o 16 (m 3),o 17 (m 5),o 18 (.bslice 1 1 [.int .i64 0] [(0, 1, (.t 17))]),o 19 (.app 1 8 (.t 16) (.t 18)),o 3 (m 19)])
      (.reg [o 20 (m 0),o 21 (.bin .quo .none (.t 20) (.k (.int .i64 1000000000))),o 0 (m 21)]))))))))
  (.seq (.reg [o 22 (m 4),o 23 (m 3),o 24 (.callF 249 [(.t 22), (.t 23)]),n (.store 2 (.t 2) (.t 24))])
  .ret)))))⟩
def a185 : AFn := ⟨12, [.tmp 4], (.seq (.reg [o 4 (.mv (.k (.int .i64 0)))])
  (.seq (.block 0 (.loop (.seq (.seq (.reg [o 5 (m 1),o 6 (.bin .gtr .none (.t 5) (.k (.int .i64 0)))])
      (.cond (.t 6) .skip
      (.exit 0)))
     (.block 1 (.dreg [o 7 (m 1),o 8 (m 0),o 9 (m 1),o 10 (.bin .rem .none (.t 8) (.t 9)),o 0 (m 7),o 1 (m 10)])))))
  (.seq (.reg [o 11 (m 0),o 4 (m 11)])
  .ret)))⟩
def a187 : AFn := ⟨29, [.cell 4 true 2], (.seq (.reg [o 2 (.box (.t 0)),o 3 (.box (.t 1)),o 4 (.alloc [.bool false, .nils])])
  (.seq (.reg [o 8 (.fadr 1 (.t 2)),o 9 (.load false 1 (.t 8)),o 10 (.fadr 1 (.t 3)),o 11 (.load false 1 (.t 10)),o 12 (.callF 208 [(.t 9), (.t 11)]),o 7 (m 12),o 13 (.ext (.t 7) 0),o 14 (.ext (.t 7) 1),o 5 (m 13),o 6 (m 14)])
  (.seq (.seq (.reg [o 15 (.fadr 0 (.t 2)),o 16 (.load false 1 (.t 15)),o 17 (m 16),g 18 (m 6) 17 true,g 19 (.len .slice (.t 18)) 17 true,g 20 (.bin .gtr .none (.t 19) (.k (.int .i64 0))) 17 true,o 21 (.pick (.t 17) (.t 20) (.k (.bool false)))])
   (.cond (.t 21) (.reg [o 22 (m 5),o 23 (.bslice 1 1 [.int .i64 0] [(0, 1, (.k (.int .i64 1)))]),o 24 (.callF 250 [(.t 22), (.t 23)]),o 5 (m 24)])
   .skip))
  (.seq (.reg [o 25 (.fadr 0 (.t 2)),o 26 (.load false 1 (.t 25)),o 27 (m 5),o 28 (.callF 249 [(.t 26), (.t 27)]),n (.store 2 (.t 4) (.t 28))])
  .ret))))⟩
def a207 : AFn := ⟨40, [.cell 2 true 2], (.seq (.reg [o 2 (.alloc [.bool false, .nils])])
  (.seq (.reg [o 5 (m 0),o 6 (.len .str (.t 5)),o 7 (.bin .gtr .none (.t 6) (.k (.int .i64 0))),o 8 (m 7),g 9 (m 0) 8 true,g 10 (.idxs (.t 9) (.k (.int .i64 0))) 8 true,g 11 (.bin .eql .none (.t 10) (.k (.int .u8 45))) 8 true,o 12 (.pick (.t 8) (.t 11) (.k (.bool false))),o 3 (m 12)])
  (.seq (.seq (.reg [o 13 (m 3)])
   (.cond (.t 13) (.reg [o 14 (m 0),o 15 (.sls (.t 14) (some (.k (.int .i64 1))) none),o 0 (m 15)])
   .skip))
  (.seq (.reg [o 4 (.mv (.k (.nils)))])
  (.seq (.block 0 (.loop (.seq (.seq (.reg [o 16 (m 0),o 17 (.len .str (.t 16)),o 18 (.bin .gtr .none (.t 17) (.k (.int .i64 9)))])
      (.cond (.t 18) .skip
      (.exit 0)))
     (.block 1 (.seq (.reg [o 19 (m 4),o 20 (m 0),o 21 (m 0),o 22 (.len .str (.t 21)),o 23 (.bin .sub .none (.t 22) (.k (.int .i64 9))),o 24 (.sls (.t 20) (some (.t 23)) none),o 25 (.callF 153 [(.t 24)]),o 26 (.bslice 1 1 [.int .i64 0] [(0, 1, (.t 25))]),o 27 (.app 1 8 (.t 19) (.t 26)),o 4 (m 27)])
      (.reg [o 28 (m 0),o 29 (m 0),o 30 (.len .str (.t 29)),o 31 (.bin .sub .none (.t 30) (.k (.int .i64 9))),o 32 (.sls (.t 28) none (some (.t 31))),o 0 (m 32)]))))))
  (.seq (.reg [o 33 (m 3),o 34 (m 4),o 35 (m 0),o 36 (.callF 153 [(.t 35)]),o 37 (.bslice 1 1 [.int .i64 0] [(0, 1, (.t 36))]),o 38 (.app 1 8 (.t 34) (.t 37)),o 39 (.callF 249 [(.t 33), (.t 38)]),n (.store 2 (.t 2) (.t 39))])
  .ret))))))⟩
def a208 : AFn := ⟨206, [.tmp 4, .tmp 5], (.seq (.reg [o 4 (.mv (.k (.nils))),o 5 (.mv (.k (.nils)))])
  (.seq (.seq (.reg [o 24 (m 0),o 25 (m 1),o 26 (.callF 251 [(.t 24), (.t 25)]),o 27 (.bin .lss .none (.t 26) (.k (.int .i64 0)))])
   (.cond (.t 27) (.seq (.reg [o 28 (m 0),o 4 (.mv (.k (.nils))),o 5 (m 28)])
    .ret)
   .skip))
  (.seq (.seq (.reg [o 29 (m 1),o 30 (.len .slice (.t 29)),o 31 (.bin .eql .none (.t 30) (.k (.int .i64 1)))])
   (.cond (.t 31) (.seq (.reg [o 33 (m 0),o 34 (m 1),o 35 (.iadr 1 (.t 34) (.k (.int .i64 0))),o 36 (.load false 1 (.t 35)),o 37 (.callF 270 [(.t 33), (.t 36)]),o 32 (m 37),o 38 (.ext (.t 32) 0),o 39 (.ext (.t 32) 1),o 6 (m 38),o 7 (m 39)])
    (.seq (.reg [o 40 (m 6),o 41 (m 7),o 42 (.bslice 1 1 [.int .i64 0] [(0, 1, (.t 41))]),o 43 (.callF 271 [(.t 42)]),o 4 (m 40),o 5 (m 43)])
    .ret))
   .skip))
  (.seq (.reg [o 44 (m 1),o 45 (m 1),o 46 (.len .slice (.t 45)),o 47 (.bin .sub .none (.t 46) (.k (.int .i64 1))),o 48 (.iadr 1 (.t 44) (.t 47)),o 49 (.load false 1 (.t 48)),o 50 (.bin .add .none (.t 49) (.k (.int .i64 1))),o 51 (.bin .quo .none (.k (.int .i64 1000000000)) (.t 50)),o 52 (.bslice 1 1 [.int .i64 0] [(0, 1, (.t 51))]),o 8 (m 52)])
  (.seq (.reg [o 53 (m 1),o 54 (m 8),o 55 (.callF 253 [(.t 53), (.t 54)]),o 9 (m 55)])
  (.seq (.reg [o 56 (m 9),o 57 (.len .slice (.t 56)),o 10 (m 57)])
  (.seq (.reg [o 58 (.bslice 1 0 [] []),o 59 (m 0),o 60 (m 8),o 61 (.callF 253 [(.t 59), (.t 60)]),o 62 (.app 1 8 (.t 58) (.t 61)),o 11 (m 62)])
  (.seq (.block 0 (.loop (.seq (.seq (.reg [o 63 (m 11),o 64 (.len .slice (.t 63)),o 65 (m 0),o 66 (.len .slice (.t 65)),o 67 (.bin .add .none (.t 66) (.k (.int .i64 1))),o 68 (.bin .lss .none (.t 64) (.t 67))])
      (.cond (.t 68) .skip
      (.exit 0)))
     (.block 1 (.reg [o 69 (m 11),o 70 (.bslice 1 1 [.int .i64 0] [(0, 1, (.k (.int .i64 0)))]),o 71 (.app 1 8 (.t 69) (.t 70)),o 11 (m 71)])))))
  (.seq (.reg [o 72 (m 11),o 73 (.len .slice (.t 72)),o 74 (m 10),o 75 (.bin .sub .none (.t 73) (.t 74)),o 76 (.mks 1 8 [.int .i64 0] (.t 75) (.t 75)),o 12 (m 76)])
  (.seq (.seq (.reg [o 77 (m 11),o 78 (.len .slice (.t 77)),o 79 (m 10),o 80 (.bin .sub .none (.t 78) (.t 79)),o 81 (.bin .sub .none (.t 80) (.k (.int .i64 1))),o 13 (m 81)])
   (.block 2 (.loop (.seq (.seq (.reg [o 82 (m 13),o 83 (.bin .geq .none (.t 82) (.k (.int .i64 0)))])
      (.cond (.t 83) .skip
      (.exit 2)))
     (.seq (.block 3 (.seq (.reg [o 86 (m 11),o 87 (m 9),o 88 (m 13),o 89 (.callF 272 [(.t 86), (.t 87), (.t 88)]),o 14 (m 89)])
       (.seq (.reg [o 15 (.mv (.k (.int .i64 0)))])
       (.seq (.seq (.reg [o 16 (.mv (.k (.int .i64 0)))])
        (.block 4 (.loop (.seq (.seq (.reg [o 90 (m 16),o 91 (m 10),o 92 (.bin .lss .none (.t 90) (.t 91))])
           (.cond (.t 92) .skip
           (.exit 4)))
          (.seq (.block 5 (.seq (.reg [o 95 (m 14),o 96 (m 9),o 97 (m 16),o 98 (.iadr 1 (.t 96) (.t 97)),o 99 (.load false 1 (.t 98)),o 100 (.bin .mul .none (.t 95) (.t 99)),o 101 (m 15),o 102 (.bin .add .none (.t 100) (.t 101)),o 17 (m 102)])
            (.seq (.reg [o 103 (m 11),o 104 (m 16),o 105 (m 13),o 106 (.bin .add .none (.t 104) (.t 105)),o 107 (.iadr 1 (.t 103) (.t 106)),o 108 (.load false 1 (.t 107)),o 109 (m 17),o 110 (.bin .rem .none (.t 109) (.k (.int .i64 1000000000))),o 111 (.bin .sub .none (.t 108) (.t 110)),o 18 (m 111)])
            (.seq (.reg [o 112 (m 17),o 113 (.bin .quo .none (.t 112) (.k (.int .i64 1000000000))),o 15 (m 113)])
            (.seq (.seq (.reg [o 114 (m 18),o 115 (.bin .lss .none (.t 114) (.k (.int .i64 0)))])
             (.cond (.t 115) (.seq (.reg [o 116 (m 18),o 117 (.bin .add .none (.t 116) (.k (.int .i64 1000000000))),o 18 (m 117)])
              (.reg [o 118 (m 15),o 119 (.bin .add .none (.t 118) (.k (.int .i64 1))),o 15 (m 119)]))
             .skip))
            (.reg [o 120 (m 11),o 121 (m 16),o 122 (m 13),o 123 (.bin .add .none (.t 121) (.t 122)),o 124 (m 18),o 125 (.iadr 1 (.t 120) (.t 123)),n (.store 1 (.t 125) (.t 124))]))))))
          (.reg [o 93 (m 16),o 94 (.bin .add .none (.t 93) (.k (.int .i64 1))),o 16 (m 94)]))))))
       (.seq (.reg [o 126 (m 11),o 127 (m 13),o 128 (m 10),o 129 (.bin .add .none (.t 127) (.t 128)),o 130 (m 11),o 131 (m 13),o 132 (m 10),o 133 (.bin .add .none (.t 131) (.t 132)),o 134 (.iadr 1 (.t 130) (.t 133)),o 135 (.load false 1 (.t 134)),o 136 (m 15),o 137 (.bin .sub .none (.t 135) (.t 136)),o 138 (.iadr 1 (.t 126) (.t 129)),n (.store 1 (.t 138) (.t 137))])
       (.seq (.seq (.reg [o 139 (m 11),o 140 (m 13),o 141 (m 10),o 142 (.bin .add .none (.t 140) (.t 141)),o 143 (.iadr 1 (.t 139) (.t 142)),o 144 (.load false 1 (.t 143)),o 145 (.bin .lss .none (.t 144) (.k (.int .i64 0)))])
        (.cond (.t 145) (.seq (.reg [o 146 (m 14),o 147 (.bin .sub .none (.t 146) (.k (.int .i64 1))),o 14 (m 147)])
         (.seq (.reg [o 19 (.mv (.k (.int .i64 0)))])
         (.seq (.seq (.reg [o 20 (.mv (.k (.int .i64 0)))])
          (.block 6 (.loop (.seq (.seq (.reg [o 148 (m 20),o 149 (m 10),o 150 (.bin .lss .none (.t 148) (.t 149))])
             (.cond (.t 150) .skip
             (.exit 6)))
            (.seq (.block 7 (.seq (.dreg [o 153 (m 11),o 154 (m 20),o 155 (m 13),o 156 (.bin .add .none (.t 154) (.t 155)),o 157 (.iadr 1 (.t 153) (.t 156)),⟨(some 158), .load false 1 (.t 157), none, (some 5)⟩,o 159 (m 9),o 160 (m 20),o 161 (.iadr 1 (.t 159) (.t 160)),⟨(some 162), .load false 1 (.t 161), none, (some 9)⟩,o 163 (.bin .add .none (.t 158) (.t 162)),o 164 (m 19),o 165 (.bin .add .none (.t 163) (.t 164)),o 21 (m 165)])
              (.seq (.reg [o 166 (m 11),o 167 (m 20),o 168 (m 13),o 169 (.bin .add .none (.t 167) (.t 168)),o 170 (m 21),o 171 (.bin .rem .none (.t 170) (.k (.int .i64 1000000000))),o 172 (.iadr 1 (.t 166) (.t 169)),n (.store 1 (.t 172) (.t 171))])
              (.reg [o 173 (m 21),o 174 (.bin .quo .none (.t 173) (.k (.int .i64 1000000000))),o 19 (m 174)]))))
            (.reg [o 151 (m 20),o 152 (.bin .add .none (.t 151) (.k (.int .i64 1))),o 20 (m 152)]))))))
         (.reg [o 175 (m 11),o 176 (m 13),o 177 (m 10),o 178 (.bin .add .none (.t 176) (.t 177)),o 179 (m 11),o 180 (m 13),o 181 (m 10),o 182 (.bin .add .none (.t 180) (.t 181)),o 183 (.iadr 1 (.t 179) (.t 182)),o 184 (.load false 1 (.t 183)),o 185 (m 19),o 186 (.bin .add .none (.t 184) (.t 185)),o 187 (.iadr 1 (.t 175) (.t 178)),n (.store 1 (.t 187) (.t 186))]))))
        .skip))
       (.reg [o 188 (m 12),o 189 (m 13),o 190 (m 14),o 191 (.iadr 1 (.t 188) (.t 189)),n (.store 1 (.t 191) (.t 190))])))))))
     (.reg [o 84 (m 13),o 85 (.bin .sub .none (.t 84) (.k (.int .i64 1))),o 13 (m 85)]))))))
  (.seq (.dreg [o 193 (m 11),o 194 (m 10),o 195 (.sl 1 (.t 193) none (some (.t 194))),o 196 (.callF 271 [(.t 195)]),o 197 (m 8),o 198 (.iadr 1 (.t 197) (.k (.int .i64 0))),⟨(some 199), .load false 1 (.t 198), none, (some 6)⟩,o 200 (.callF 270 [(.t 196), (.t 199)]),o 192 (m 200),o 201 (.ext (.t 192) 0),o 202 (.ext (.t 192) 1),o 22 (m 201),o 23 (m 202)])
  (.seq (.reg [o 203 (m 12),o 204 (.callF 271 [(.t 203)]),o 205 (m 22),o 4 (m 204),o 5 (m 205)])
  .ret))))))))))))⟩
def a214 : AFn := ⟨9, [.tmp 2], (.seq (.reg [o 2 (.mv (.k (.str [])))])
  (.seq (.seq (.reg [o 3 (m 0),o 4 (.callF 21 [(.t 3)]),o 5 (.bin .lss .none (.t 4) (.k (.int .i64 0)))])
   (.cond (.t 5) (.seq (.reg [o 6 (m 0),o 7 (.sls (.t 6) (some (.k (.int .i64 1))) none),o 2 (m 7)])
    .ret)
   .skip))
  (.seq (.reg [o 8 (m 0),o 2 (m 8)])
  .ret)))⟩
def a248 : AFn := ⟨9, [.cell 2 true 2], (.seq (.reg [o 1 (.box (.t 0)),o 2 (.alloc [.bool false, .nils])])
  (.seq (.reg [o 3 (.fadr 0 (.t 1)),o 4 (.load false 1 (.t 3)),o 5 (.un .not (.t 4)),o 6 (.fadr 1 (.t 1)),o 7 (.load false 1 (.t 6)),o 8 (.callF 249 [(.t 5), (.t 7)]),n (.store 2 (.t 2) (.t 8))])
  .ret))⟩
def a249 : AFn := ⟨15, [.cell 4 true 2], (.seq (.reg [o 4 (.alloc [.bool false, .nils])])
  (.seq (.reg [o 5 (m 1),o 6 (.callF 271 [(.t 5)]),o 1 (m 6)])
  (.seq (.reg [o 7 (m 0),o 8 (m 7),g 9 (m 1) 8 true,g 10 (.len .slice (.t 9)) 8 true,g 11 (.bin .gtr .none (.t 10) (.k (.int .i64 0))) 8 true,o 12 (.pick (.t 8) (.t 11) (.k (.bool false))),o 13 (m 1),o 14 (.build [.bool false, .nils] [(0, 1, (.t 12)), (1, 1, (.t 13))]),n (.store 2 (.t 4) (.t 14))])
  .ret)))⟩
def a250 : AFn := ⟨42, [.tmp 4], (.seq (.reg [o 4 (.mv (.k (.nils)))])
  (.seq (.reg [o 5 (.mv (.k (.nils)))])
  (.seq (.reg [o 6 (.mv (.k (.int .i64 0)))])
  (.seq (.seq (.reg [o 7 (.mv (.k (.int .i64 0)))])
   (.block 0 (.loop (.seq (.seq (.reg [o 9 (m 7),o 10 (m 0),o 11 (.len .slice (.t 10)),o 12 (.bin .lss .none (.t 9) (.t 11)),o 13 (m 12),g 14 (m 7) 13 false,g 15 (m 1) 13 false,g 16 (.len .slice (.t 15)) 13 false,g 17 (.bin .lss .none (.t 14) (.t 16)) 13 false,o 18 (.pick (.t 13) (.k (.bool true)) (.t 17)),o 19 (m 18),g 20 (m 6) 19 false,g 21 (.bin .gtr .none (.t 20) (.k (.int .i64 0))) 19 false,o 22 (.pick (.t 19) (.k (.bool true)) (.t 21))])
      (.cond (.t 22) .skip
      (.exit 0)))
     (.seq (.block 1 (.seq (.reg [o 25 (m 0),o 26 (m 7),o 27 (.callF 296 [(.t 25), (.t 26)]),o 28 (m 1),o 29 (m 7),o 30 (.callF 296 [(.t 28), (.t 29)]),o 31 (.bin .add .none (.t 27) (.t 30)),o 32 (m 6),o 33 (.bin .add .none (.t 31) (.t 32)),o 8 (m 33)])
       (.seq (.reg [o 34 (m 5),o 35 (m 8),o 36 (.bin .rem .none (.t 35) (.k (.int .i64 1000000000))),o 37 (.bslice 1 1 [.int .i64 0] [(0, 1, (.t 36))]),o 38 (.app 1 8 (.t 34) (.t 37)),o 5 (m 38)])
       (.reg [o 39 (m 8),o 40 (.bin .quo .none (.t 39) (.k (.int .i64 1000000000))),o 6 (m 40)]))))
     (.reg [o 23 (m 7),o 24 (.bin .add .none (.t 23) (.k (.int .i64 1))),o 7 (m 24)]))))))
  (.seq (.reg [o 41 (m 5),o 4 (m 41)])
  .ret)))))⟩
def a251 : AFn := ⟨41, [.tmp 4], (.seq (.reg [o 4 (.mv (.k (.int .i64 0)))])
  (.seq (.seq (.reg [o 6 (m 0),o 7 (.len .slice (.t 6)),o 8 (m 1),o 9 (.len .slice (.t 8)),o 10 (.bin .neq .none (.t 7) (.t 9))])
   (.cond (.t 10) (.seq (.seq (.reg [o 11 (m 0),o 12 (.len .slice (.t 11)),o 13 (m 1),o 14 (.len .slice (.t 13)),o 15 (.bin .lss .none (.t 12) (.t 14))])
     (.cond (.t 15) (.seq (.reg [o 4 (.mv (.k (.int .i64 (-1))))])
      .ret)
     .skip))
    (.seq (.reg [o 4 (.mv (.k (.int .i64 1)))])
    .ret))
   .skip))
  (.seq (.seq (.reg [o 16 (m 0),o 17 (.len .slice (.t 16)),o 18 (.bin .sub .none (.t 17) (.k (.int .i64 1))),o 5 (m 18)])
   (.block 0 (.loop (.seq (.seq (.reg [o 19 (m 5),o 20 (.bin .geq .none (.t 19) (.k (.int .i64 0)))])
      (.cond (.t 20) .skip
      (.exit 0)))
     (.seq (.block 1 (.seq (.seq (.dreg [o 23 (m 0),o 24 (m 5),o 25 (.iadr 1 (.t 23) (.t 24)),⟨(some 26), .load false 1 (.t 25), none, (some 3)⟩,o 27 (m 1),o 28 (m 5),o 29 (.iadr 1 (.t 27) (.t 28)),⟨(some 30), .load false 1 (.t 29), none, (some 7)⟩,o 31 (.bin .lss .none (.t 26) (.t 30))])
        (.cond (.t 31) (.seq (.reg [o 4 (.mv (.k (.int .i64 (-1))))])
         .ret)
        .skip))
       (.seq (.dreg [o 32 (m 0),o 33 (m 5),o 34 (.iadr 1 (.t 32) (.t 33)),⟨(some 35), .load false 1 (.t 34), none, (some 3)⟩,o 36 (m 1),o 37 (m 5),o 38 (.iadr 1 (.t 36) (.t 37)),⟨(some 39), .load false 1 (.t 38), none, (some 7)⟩,o 40 (.bin .gtr .none (.t 35) (.t 39))])
       (.cond (.t 40) (.seq (.reg [o 4 (.mv (.k (.int .i64 1)))])
        .ret)
       .skip))))
     (.reg [o 21 (m 5),o 22 (.bin .sub .none (.t 21) (.k (.int .i64 1))),o 5 (m 22)]))))))
  (.seq (.reg [o 4 (.mv (.k (.int .i64 0)))])
  .ret))))⟩
def a252 : AFn := ⟨35, [.tmp 4], (.seq (.reg [o 4 (.mv (.k (.nils)))])
  (.seq (.reg [o 5 (.mv (.k (.nils)))])
  (.seq (.reg [o 6 (.mv (.k (.int .i64 0)))])
  (.seq (.seq (.reg [o 7 (.mv (.k (.int .i64 0)))])
   (.block 0 (.loop (.seq (.seq (.reg [o 9 (m 7),o 10 (m 0),o 11 (.len .slice (.t 10)),o 12 (.bin .lss .none (.t 9) (.t 11))])
      (.cond (.t 12) .skip
      (.exit 0)))
     (.seq (.block 1 (.seq (.dreg [o 15 (m 0),o 16 (m 7),o 17 (.iadr 1 (.t 15) (.t 16)),⟨(some 18), .load false 1 (.t 17), none, (some 6)⟩,o 19 (m 1),o 20 (m 7),o 21 (.callF 296 [(.t 19), (.t 20)]),o 22 (.bin .sub .none (.t 18) (.t 21)),o 23 (m 6),o 24 (.bin .sub .none (.t 22) (.t 23)),o 8 (m 24)])
       (.seq (.reg [o 6 (.mv (.k (.int .i64 0)))])
       (.seq (.seq (.reg [o 25 (m 8),o 26 (.bin .lss .none (.t 25) (.k (.int .i64 0)))])
        (.cond (.t 26) (.seq (.reg [o 27 (m 8),o 28 (.bin .add .none (.t 27) (.k (.int .i64 1000000000))),o 8 (m 28)])
         (.reg [o 6 (.mv (.k (.int .i64 1)))]))
        .skip))
       (.reg [o 29 (m 5),o 30 (m 8),o 31 (.bslice 1 1 [.int .i64 0] [(0, 1, (.t 30))]),o 32 (.app 1 8 (.t 29) (.t 31)),o 5 (m 32)])))))
     (.reg [o 13 (m 7),o 14 (.bin .add .none (.t 13) (.k (.int .i64 1))),o 7 (m 14)]))))))
  (.seq (.reg [o 33 (m 5),o 34 (.callF 271 [(.t 33)]),o 4 (m 34)])
  .ret)))))⟩
def a253 : AFn := ⟨72, [.tmp 4], (.seq (.reg [o 4 (.mv (.k (.nils)))])
  (.seq (.reg [o 10 (m 0),o 11 (.len .slice (.t 10)),o 12 (m 1),o 13 (.len .slice (.t 12)),o 14 (.bin .add .none (.t 11) (.t 13)),o 15 (.mks 1 8 [.int .i64 0] (.t 14) (.t 14)),o 5 (m 15)])
  (.seq (.seq (.reg [o 6 (.mv (.k (.int .i64 0)))])
   (.block 0 (.loop (.seq (.seq (.reg [o 16 (m 6),o 17 (m 0),o 18 (.len .slice (.t 17)),o 19 (.bin .lss .none (.t 16) (.t 18))])
      (.cond (.t 19) .skip
      (.exit 0)))
     (.seq (.block 1 (.seq (.reg [o 7 (.mv (.k (.int .i64 0)))])
       (.seq (.seq (.reg [o 8 (.mv (.k (.int .i64 0)))])
        (.block 2 (.loop (.seq (.seq (.reg [o 22 (m 8),o 23 (m 1),o 24 (.len .slice (.t 23)),o 25 (.bin .lss .none (.t 22) (.t 24))])
           (.cond (.t 25) .skip
           (.exit 2)))
          (.seq (.block 3 (.seq (.dreg [o 28 (m 5),o 29 (m 6),o 30 (m 8),o 31 (.bin .add .none (.t 29) (.t 30)),o 32 (.iadr 1 (.t 28) (.t 31)),⟨(some 33), .load false 1 (.t 32), none, (some 5)⟩,o 34 (m 0),o 35 (m 6),o 36 (.iadr 1 (.t 34) (.t 35)),⟨(some 37), .load false 1 (.t 36), none, (some 9)⟩,o 38 (m 1),o 39 (m 8),o 40 (.iadr 1 (.t 38) (.t 39)),⟨(some 41), .load false 1 (.t 40), none, (some 13)⟩,o 42 (.bin .mul .none (.t 37) (.t 41)),o 43 (.bin .add .none (.t 33) (.t 42)),o 44 (m 7),o 45 (.bin .add .none (.t 43) (.t 44)),o 9 (m 45)])
            (.seq (.reg [o 46 (m 5),o 47 (m 6),o 48 (m 8),o 49 (.bin .add .none (.t 47) (.t 48)),o 50 (m 9),o 51 (.bin .rem .none (.t 50) (.k (.int .i64 1000000000))),o 52 (.iadr 1 (.t 46) (.t 49)),n (.store 1 (.t 52) (.t 51))])
            (.reg [o 53 (m 9),o 54 (.bin .quo .none (.t 53) (.k (.int .i64 1000000000))),o 7 (m 54)]))))
          (.reg [o 26 (m 8),o 27 (.bin .add .none (.t 26) (.k (.int .i64 1))),o 8 (m 27)]))))))
       (.reg [o 55 (m 5),o 56 (m 6),o 57 (m 1),o 58 (.len .slice (.t 57)),o 59 (.bin .add .none (.t 56) (.t 58)),o 60 (m 5),o 61 (m 6),o 62 (m 1),o 63 (.len .slice (.t 62)),o 64 (.bin .add .none (.t 61) (.t 63)),o 65 (.iadr 1 (.t 60) (.t 64)),o 66 (.load false 1 (.t 65)),o 67 (m 7),o 68 (.bin .add .none (.t 66) (.t 67)),o 69 (.iadr 1 (.t 55) (.t 59)),n (.store 1 (.t 69) (.t 68))]))))
     (.reg [o 20 (m 6),o 21 (.bin .add .none (.t 20) (.k (.int .i64 1))),o 6 (m 21)]))))))
  (.seq (.reg [o 70 (m 5),o 71 (.callF 271 [(.t 70)]),o 4 (m 71)])
  .ret))))⟩
def a270 : AFn := ⟨39, [.tmp 4, .tmp 5], (.seq (.reg [o 4 (.mv (.k (.nils))),o 5 (.mv (.k (.int .i64 0)))])
  (.seq (.reg [o 10 (m 0),o 11 (.len .slice (.t 10)),o 12 (.mks 1 8 [.int .i64 0] (.t 11) (.t 11)),o 6 (m 12)])
  (.seq (.reg [o 7 (.mv (.k (.int .i64 0)))])
  (.seq (.seq (.reg [o 13 (m 0),o 14 (.len .slice (.t 13)),o 15 (.bin .sub .none (.t 14) (.k (.int .i64 1))),o 8 (m 15)])
   (.block 0 (.loop (.seq (.seq (.reg [o 16 (m 8),o 17 (.bin .geq .none (.t 16) (.k (.int .i64 0)))])
      (.cond (.t 17) .skip
      (.exit 0)))
     (.seq (.block 1 (.seq (.reg [o 20 (m 7),o 21 (.bin .mul .none (.t 20) (.k (.int .i64 1000000000))),o 22 (m 0),o 23 (m 8),o 24 (.iadr 1 (.t 22) (.t 23)),o 25 (.load false 1 (.t 24)),o 26 (.bin .add .none (.t 21) (.t 25)),o 9 (m 26)])
       (.seq (.reg [o 27 (m 6),o 28 (m 8),o 29 (m 9),o 30 (m 1),o 31 (.bin .quo .none (.t 29) (.t 30)),o 32 (.iadr 1 (.t 27) (.t 28)),n (.store 1 (.t 32) (.t 31))])
       (.reg [o 33 (m 9),o 34 (m 1),o 35 (.bin .rem .none (.t 33) (.t 34)),o 7 (m 35)]))))
     (.reg [o 18 (m 8),o 19 (.bin .sub .none (.t 18) (.k (.int .i64 1))),o 8 (m 19)]))))))
  (.seq (.reg [o 36 (m 6),o 37 (.callF 271 [(.t 36)]),o 38 (m 7),o 4 (m 37),o 5 (m 38)])
  .ret)))))⟩
def a271 : AFn := ⟨21, [.tmp 2], (.seq (.reg [o 2 (.mv (.k (.nils)))])
  (.seq (.block 0 (.loop (.seq (.seq (.reg [o 3 (m 0),o 4 (.len .slice (.t 3)),o 5 (.bin .gtr .none (.t 4) (.k (.int .i64 0))),o 6 (m 5),g 7 (m 0) 6 true,g 8 (m 0) 6 true,g 9 (.len .slice (.t 8)) 6 true,g 10 (.bin .sub .none (.t 9) (.k (.int .i64 1))) 6 true,g 11 (.iadr 1 (.t 7) (.t 10)) 6 true,g 12 (.load false 1 (.t 11)) 6 true,g 13 (.bin .eql .none (.t 12) (.k (.int .i64 0))) 6 true,o 14 (.pick (.t 6) (.t 13) (.k (.bool false)))])
      (.cond (.t 14) .skip
      (.exit 0)))
     (.block 1 (.reg [o 15 (m 0),o 16 (m 0),o 17 (.len .slice (.t 16)),o 18 (.bin .sub .none (.t 17) (.k (.int .i64 1))),o 19 (.sl 1 (.t 15) none (some (.t 18))),o 0 (m 19)])))))
  (.seq (.reg [o 20 (m 0),o 2 (m 20)])
  .ret)))⟩
def a272 : AFn := ⟨77, [.tmp 6], (.seq (.reg [o 6 (.mv (.k (.int .i64 0)))])
  (.seq (.reg [o 11 (m 1),o 12 (.len .slice (.t 11)),o 7 (m 12)])
  (.seq (.dreg [o 13 (m 0),o 14 (m 2),o 15 (m 7),o 16 (.bin .add .none (.t 14) (.t 15)),o 17 (.iadr 1 (.t 13) (.t 16)),⟨(some 18), .load false 1 (.t 17), none, (some 5)⟩,o 19 (.bin .mul .none (.t 18) (.k (.int .i64 1000000000))),o 20 (m 0),o 21 (m 2),o 22 (m 7),o 23 (.bin .add .none (.t 21) (.t 22)),o 24 (.bin .sub .none (.t 23) (.k (.int .i64 1))),o 25 (.iadr 1 (.t 20) (.t 24)),⟨(some 26), .load false 1 (.t 25), none, (some 13)⟩,o 27 (.bin .add .none (.t 19) (.t 26)),o 8 (m 27)])
  (.seq (.dreg [o 28 (m 8),o 29 (m 1),o 30 (m 7),o 31 (.bin .sub .none (.t 30) (.k (.int .i64 1))),o 32 (.iadr 1 (.t 29) (.t 31)),⟨(some 33), .load false 1 (.t 32), none, (some 5)⟩,o 34 (.bin .quo .none (.t 28) (.t 33)),o 35 (m 8),o 36 (m 1),o 37 (m 7),o 38 (.bin .sub .none (.t 37) (.k (.int .i64 1))),o 39 (.iadr 1 (.t 36) (.t 38)),⟨(some 40), .load false 1 (.t 39), none, (some 12)⟩,o 41 (.bin .rem .none (.t 35) (.t 40)),o 9 (m 34),o 10 (m 41)])
  (.seq (.block 0 (.loop (.seq (.seq (.dreg [o 42 (m 9),o 43 (.bin .geq .none (.t 42) (.k (.int .i64 1000000000))),o 44 (m 43),g 45 (m 9) 44 false,g 46 (m 1) 44 false,g 47 (m 7) 44 false,g 48 (.bin .sub .none (.t 47) (.k (.int .i64 2))) 44 false,g 49 (.iadr 1 (.t 46) (.t 48)) 44 false,⟨(some 50), .load false 1 (.t 49), (some (44, false)), (some 8)⟩,g 51 (.bin .mul .none (.t 45) (.t 50)) 44 false,g 52 (m 10) 44 false,g 53 (.bin .mul .none (.t 52) (.k (.int .i64 1000000000))) 44 false,g 54 (m 0) 44 false,g 55 (m 2) 44 false,g 56 (m 7) 44 false,g 57 (.bin .add .none (.t 55) (.t 56)) 44 false,g 58 (.bin .sub .none (.t 57) (.k (.int .i64 2))) 44 false,g 59 (.iadr 1 (.t 54) (.t 58)) 44 false,⟨(some 60), .load false 1 (.t 59), (some (44, false)), (some 18)⟩,g 61 (.bin .add .none (.t 53) (.t 60)) 44 false,g 62 (.bin .gtr .none (.t 51) (.t 61)) 44 false,o 63 (.pick (.t 44) (.k (.bool true)) (.t 62))])
      (.cond (.t 63) .skip
      (.exit 0)))
     (.block 1 (.seq (.reg [o 64 (m 9),o 65 (.bin .sub .none (.t 64) (.k (.int .i64 1))),o 9 (m 65)])
      (.seq (.reg [o 66 (m 10),o 67 (m 1),o 68 (m 7),o 69 (.bin .sub .none (.t 68) (.k (.int .i64 1))),o 70 (.iadr 1 (.t 67) (.t 69)),o 71 (.load false 1 (.t 70)),o 72 (.bin .add .none (.t 66) (.t 71)),o 10 (m 72)])
      (.seq (.reg [o 73 (m 10),o 74 (.bin .geq .none (.t 73) (.k (.int .i64 1000000000)))])
      (.cond (.t 74) (.seq (.reg [o 75 (m 9),o 6 (m 75)])
       .ret)
      .skip))))))))
  (.seq (.reg [o 76 (m 9),o 6 (m 76)])
  .ret))))))⟩
def a296 : AFn := ⟨13, [.tmp 4], (.seq (.reg [o 4 (.mv (.k (.int .i64 0)))])
  (.seq (.seq (.reg [o 5 (m 1),o 6 (m 0),o 7 (.len .slice (.t 6)),o 8 (.bin .lss .none (.t 5) (.t 7))])
   (.cond (.t 8) (.seq (.reg [o 9 (m 0),o 10 (m 1),o 11 (.iadr 1 (.t 9) (.t 10)),o 12 (.load false 1 (.t 11)),o 4 (m 12)])
    .ret)
   .skip))
  (.seq (.reg [o 4 (.mv (.k (.int .i64 0)))])
  .ret)))⟩
def tab : T AFn := (.node (.node (.node (.node (.node .nil none (.node (.node (.node (.node .nil (some a271) .nil) none .nil) none (.node .nil (some a207) .nil)) (some a47) .nil)) none (.node (.node (.node (.node .nil (some a135) .nil) none .nil) none .nil) none (.node .nil (some a55) .nil))) none (.node (.node (.node .nil (some a35) (.node .nil (some a99) .nil)) (some a19) (.node (.node .nil (some a83) .nil) none .nil)) none (.node (.node (.node .nil (some a75) .nil) none (.node (.node .nil (some a171) .nil) (some a107) .nil)) none (.node (.node .nil (some a91) .nil) (some a59) (.node (.node .nil (some a187) .nil) (some a123) (.node .nil (some a251) .nil)))))) none (.node (.node (.node (.node (.node (.node .nil (some a129) .nil) none .nil) none .nil) none (.node (.node .nil (some a81) .nil) (some a49) .nil)) none (.node (.node (.node .nil (some a73) .nil) none (.node (.node .nil (some a169) .nil) none .nil)) (some a25) (.node .nil none (.node (.node .nil (some a185) .nil) none (.node .nil (some a249) .nil))))) none (.node (.node .nil (some a21) (.node .nil none (.node (.node .nil (some a181) .nil) none .nil))) none (.node (.node .nil none (.node (.node .nil (some a173) .nil) none .nil)) none (.node .nil (some a61) (.node .nil (some a125) (.node .nil (some a253) .nil))))))) none (.node (.node (.node (.node (.node (.node (.node .nil (some a128) .nil) none .nil) none .nil) none (.node (.node (.node (.node .nil (some a272) .nil) none .nil) none (.node .nil (some a208) .nil)) none (.node (.node .nil (some a176) .nil) none .nil))) none (.node (.node (.node .nil (some a72) .nil) none (.node (.node (.node .nil (some a296) .nil) (some a168) .nil) none .nil)) none (.node .nil (some a56) (.node .nil none (.node .nil (some a248) .nil))))) none (.node (.node (.node (.node .nil (some a68) .nil) (some a36) (.node .nil (some a100) .nil)) (some a20) .nil) none (.node (.node (.node .nil (some a76) .nil) none (.node (.node .nil (some a172) .nil) none .nil)) none (.node .nil none (.node .nil (some a124) (.node .nil (some a252) .nil)))))) none (.node (.node (.node (.node .nil (some a34) .nil) none (.node .nil (some a50) .nil)) none (.node (.node (.node .nil (some a74) .nil) none (.node (.node .nil (some a170) .nil) none .nil)) (some a26) (.node .nil none (.node .nil (some a122) (.node .nil (some a250) .nil))))) none (.node (.node .nil (some a22) (.node (.node .nil none (.node .nil (some a214) .nil)) (some a54) (.node (.node .nil (some a182) .nil) none .nil))) none (.node (.node (.node (.node (.node .nil (some a270) .nil) (some a142) .nil) none .nil) none .nil) none (.node (.node .nil (some a94) .nil) (some a62) (.node .nil (some a126) .nil)))))))
section
open Go.Proofs
theorem b19 : Chk 19 a19 := by unfold Chk; kernel_rfl
theorem b20 : Chk 20 a20 := by unfold Chk; kernel_rfl
theorem b21 : Chk 21 a21 := by unfold Chk; kernel_rfl
theorem b22 : Chk 22 a22 := by unfold Chk; kernel_rfl
theorem b25 : Chk 25 a25 := by unfold Chk; kernel_rfl
theorem b26 : Chk 26 a26 := by unfold Chk; kernel_rfl
theorem b34 : Chk 34 a34 := by unfold Chk; kernel_rfl
theorem b35 : Chk 35 a35 := by unfold Chk; kernel_rfl
theorem b36 : Chk 36 a36 := by unfold Chk; kernel_rfl
theorem b47 : Chk 47 a47 := by unfold Chk; kernel_rfl
theorem b49 : Chk 49 a49 := by unfold Chk; kernel_rfl
theorem b50 : Chk 50 a50 := by unfold Chk; kernel_rfl
theorem b54 : Chk 54 a54 := by unfold Chk; kernel_rfl
theorem b55 : Chk 55 a55 := by unfold Chk; kernel_rfl
theorem b56 : Chk 56 a56 := by unfold Chk; kernel_rfl
theorem b59 : Chk 59 a59 := by unfold Chk; kernel_rfl
theorem b61 : Chk 61 a61 := by unfold Chk; kernel_rfl
theorem b62 : Chk 62 a62 := by unfold Chk; kernel_rfl
theorem b68 : Chk 68 a68 := by unfold Chk; kernel_rfl
theorem b72 : Chk 72 a72 := by unfold Chk; kernel_rfl
theorem b73 : Chk 73 a73 := by unfold Chk; kernel_rfl
theorem b74 : Chk 74 a74 := by unfold Chk; kernel_rfl
theorem b75 : Chk 75 a75 := by unfold Chk; kernel_rfl
theorem b76 : Chk 76 a76 := by unfold Chk; kernel_rfl
theorem b81 : Chk 81 a81 := by unfold Chk; kernel_rfl
theorem b83 : Chk 83 a83 := by unfold Chk; kernel_rfl
theorem b91 : Chk 91 a91 := by unfold Chk; kernel_rfl
theorem b94 : Chk 94 a94 := by unfold Chk; kernel_rfl
theorem b99 : Chk 99 a99 := by unfold Chk; kernel_rfl
theorem b100 : Chk 100 a100 := by unfold Chk; kernel_rfl
theorem b107 : Chk 107 a107 := by unfold Chk; kernel_rfl
theorem b122 : Chk 122 a122 := by unfold Chk; kernel_rfl
theorem b123 : Chk 123 a123 := by unfold Chk; kernel_rfl
theorem b124 : Chk 124 a124 := by unfold Chk; kernel_rfl
theorem b125 : Chk 125 a125 := by unfold Chk; kernel_rfl
theorem b126 : Chk 126 a126 := by unfold Chk; kernel_rfl
theorem b128 : Chk 128 a128 := by unfold Chk; kernel_rfl
theorem b129 : Chk 129 a129 := by unfold Chk; kernel_rfl
theorem b135 : Chk 135 a135 := by unfold Chk; kernel_rfl
theorem b142 : Chk 142 a142 := by unfold Chk; kernel_rfl
theorem b168 : Chk 168 a168 := by unfold Chk; kernel_rfl
theorem b169 : Chk 169 a169 := by unfold Chk; kernel_rfl
theorem b170 : Chk 170 a170 := by unfold Chk; kernel_rfl
theorem b171 : Chk 171 a171 := by unfold Chk; kernel_rfl
theorem b172 : Chk 172 a172 := by unfold Chk; kernel_rfl
theorem b173 : Chk 173 a173 := by unfold Chk; kernel_rfl
theorem b176 : Chk 176 a176 := by unfold Chk; kernel_rfl
theorem b181 : Chk 181 a181 := by unfold Chk; kernel_rfl
theorem b182 : Chk 182 a182 := by unfold Chk; kernel_rfl
theorem b185 : Chk 185 a185 := by unfold Chk; kernel_rfl
theorem b187 : Chk 187 a187 := by unfold Chk; kernel_rfl
theorem b207 : Chk 207 a207 := by unfold Chk; kernel_rfl
theorem b208 : Chk 208 a208 := by unfold Chk; kernel_rfl
theorem b214 : Chk 214 a214 := by unfold Chk; kernel_rfl
theorem b248 : Chk 248 a248 := by unfold Chk; kernel_rfl
theorem b249 : Chk 249 a249 := by unfold Chk; kernel_rfl
theorem b250 : Chk 250 a250 := by unfold Chk; kernel_rfl
theorem b251 : Chk 251 a251 := by unfold Chk; kernel_rfl
theorem b252 : Chk 252 a252 := by unfold Chk; kernel_rfl
theorem b253 : Chk 253 a253 := by unfold Chk; kernel_rfl
theorem b270 : Chk 270 a270 := by unfold Chk; kernel_rfl
theorem b271 : Chk 271 a271 := by unfold Chk; kernel_rfl
theorem b272 : Chk 272 a272 := by unfold Chk; kernel_rfl
theorem b296 : Chk 296 a296 := by unfold Chk; kernel_rfl
theorem all : T.Forall Chk tab (fun n => n) := ⟨C.no, ⟨C.no, ⟨C.no, ⟨C.no, ⟨C.no, trivial, ⟨C.yes b47, ⟨C.no, ⟨C.no, ⟨C.yes b271, trivial, trivial⟩, trivial⟩, ⟨C.yes b207, trivial, trivial⟩⟩, trivial⟩⟩, ⟨C.no, ⟨C.no, ⟨C.no, ⟨C.yes b135, trivial, trivial⟩, trivial⟩, trivial⟩, ⟨C.yes b55, trivial, trivial⟩⟩⟩, ⟨C.no, ⟨C.yes b19, ⟨C.yes b35, trivial, ⟨C.yes b99, trivial, trivial⟩⟩, ⟨C.no, ⟨C.yes b83, trivial, trivial⟩, trivial⟩⟩, ⟨C.no, ⟨C.no, ⟨C.yes b75, trivial, trivial⟩, ⟨C.yes b107, ⟨C.yes b171, trivial, trivial⟩, trivial⟩⟩, ⟨C.yes b59, ⟨C.yes b91, trivial, trivial⟩, ⟨C.yes b123, ⟨C.yes b187, trivial, trivial⟩, ⟨C.yes b251, trivial, trivial⟩⟩⟩⟩⟩⟩, ⟨C.no, ⟨C.no, ⟨C.no, ⟨C.no, ⟨C.no, ⟨C.yes b129, trivial, trivial⟩, trivial⟩, trivial⟩, ⟨C.yes b49, ⟨C.yes b81, trivial, trivial⟩, trivial⟩⟩, ⟨C.yes b25, ⟨C.no, ⟨C.yes b73, trivial, trivial⟩, ⟨C.no, ⟨C.yes b169, trivial, trivial⟩, trivial⟩⟩, ⟨C.no, trivial, ⟨C.no, ⟨C.yes b185, trivial, trivial⟩, ⟨C.yes b249, trivial, trivial⟩⟩⟩⟩⟩, ⟨C.no, ⟨C.yes b21, trivial, ⟨C.no, trivial, ⟨C.no, ⟨C.yes b181, trivial, trivial⟩, trivial⟩⟩⟩, ⟨C.no, ⟨C.no, trivial, ⟨C.no, ⟨C.yes b173, trivial, trivial⟩, trivial⟩⟩, ⟨C.yes b61, trivial, ⟨C.yes b125, trivial, ⟨C.yes b253, trivial, trivial⟩⟩⟩⟩⟩⟩⟩, ⟨C.no, ⟨C.no, ⟨C.no, ⟨C.no, ⟨C.no, ⟨C.no, ⟨C.yes b128, trivial, trivial⟩, trivial⟩, trivial⟩, ⟨C.no, ⟨C.no, ⟨C.no, ⟨C.yes b272, trivial, trivial⟩, trivial⟩, ⟨C.yes b208, trivial, trivial⟩⟩, ⟨C.no, ⟨C.yes b176, trivial, trivial⟩, trivial⟩⟩⟩, ⟨C.no, ⟨C.no, ⟨C.yes b72, trivial, trivial⟩, ⟨C.no, ⟨C.yes b168, ⟨C.yes b296, trivial, trivial⟩, trivial⟩, trivial⟩⟩, ⟨C.yes b56, trivial, ⟨C.no, trivial, ⟨C.yes b248, trivial, trivial⟩⟩⟩⟩⟩, ⟨C.no, ⟨C.yes b20, ⟨C.yes b36, ⟨C.yes b68, trivial, trivial⟩, ⟨C.yes b100, trivial, trivial⟩⟩, trivial⟩, ⟨C.no, ⟨C.no, ⟨C.yes b76, trivial, trivial⟩, ⟨C.no, ⟨C.yes b172, trivial, trivial⟩, trivial⟩⟩, ⟨C.no, trivial, ⟨C.yes b124, trivial, ⟨C.yes b252, trivial, trivial⟩⟩⟩⟩⟩⟩, ⟨C.no, ⟨C.no, ⟨C.no, ⟨C.yes b34, trivial, trivial⟩, ⟨C.yes b50, trivial, trivial⟩⟩, ⟨C.yes b26, ⟨C.no, ⟨C.yes b74, trivial, trivial⟩, ⟨C.no, ⟨C.yes b170, trivial, trivial⟩, trivial⟩⟩, ⟨C.no, trivial, ⟨C.yes b122, trivial, ⟨C.yes b250, trivial, trivial⟩⟩⟩⟩⟩, ⟨C.no, ⟨C.yes b22, trivial, ⟨C.yes b54, ⟨C.no, trivial, ⟨C.yes b214, trivial, trivial⟩⟩, ⟨C.no, ⟨C.yes b182, trivial, trivial⟩, trivial⟩⟩⟩, ⟨C.no, ⟨C.no, ⟨C.no, ⟨C.yes b142, ⟨C.yes b270, trivial, trivial⟩, trivial⟩, trivial⟩, trivial⟩, ⟨C.yes b62, ⟨C.yes b94, trivial, trivial⟩, ⟨C.yes b126, trivial, trivial⟩⟩⟩⟩⟩⟩⟩
theorem good (n : Nat) (a : AFn) (h : tab.get n = some a) : chk Tryz.prog n = some a := T.get_forall tab (fun n => n) all n a h
end
end Go.Ae.R


/- Places: products and lengths by the program. -/
set_option linter.unusedVariables false
set_option linter.unusedSimpArgs false
set_option maxRecDepth 100000
namespace Go.Ae
open Go.Proofs
/-- The environment with the reference's arithmetic. -/
noncomputable def E3 : Env := E2.add R.tab
theorem ge3 : Ge E2 E3 := Ge.add _ _
section
variable {h : Hp} {K : AV → Hp → Prop}
/-- The coordinates of a place are within the limits. -/
def okP (x y z : Int) : Prop := -100000 ≤ x ∧ x ≤ 100000 ∧ -100000 ≤ y ∧ y ≤ 100000 ∧ -100000 ≤ z ∧ z ≤ 100000
instance {x y z : Int} : Decidable (okP x y z) := by unfold okP; infer_instance
end
end Go.Ae


/- Clocks: what the program and the reference read is the same. -/
set_option linter.unusedVariables false
set_option linter.unusedSimpArgs false
set_option maxRecDepth 100000
namespace Go.Ae
open N Go.Proofs
theorem splGo_eq (sep s : List UInt8) (i a : Nat) : splGo sep s i a = if h : i + sep.length ≤ s.length ∧ 0 < sep.length then
    if (s.take (i + sep.length)).drop i = sep then (s.take i).drop a :: splGo sep s (i + sep.length) (i + sep.length)
    else splGo sep s (i + 1) a
  else [s.drop a] := by rw [splGo]
theorem splGo_shift {sep s : List UInt8} {j : Nat} (hj : j ≤ s.length) : ∀ (n i a : Nat), s.length - (j + i) = n → splGo sep s (j + i) (j + a) = splGo sep (s.drop j) i a := by
  intro n
  induction n using Nat.strongRecOn with
  | _ n ih =>
    intro i a hn
    rw [splGo_eq sep s, splGo_eq sep (s.drop j)]
    have e1 : List.drop (j + i) (List.take (j + i + sep.length) s) = List.drop i (List.take (i + sep.length) (s.drop j)) := by
      rw [List.take_drop, List.drop_drop, Nat.add_assoc]
    have e2 : List.drop (j + a) (List.take (j + i) s) = List.drop a (List.take i (s.drop j)) := by
      rw [List.take_drop, List.drop_drop]
    have e3 : List.drop (j + a) s = List.drop a (s.drop j) := by rw [List.drop_drop]
    by_cases hc : j + i + sep.length ≤ s.length ∧ 0 < sep.length
    · rw [dif_pos hc, dif_pos (by rw [List.length_drop]; omega), e1, e2]
      by_cases hm : List.drop i (List.take (i + sep.length) (s.drop j)) = sep
      · rw [if_pos hm, if_pos hm]
        have := ih (s.length - (j + (i + sep.length))) (by omega) (i + sep.length) (i + sep.length) rfl
        rw [← Nat.add_assoc] at this
        rw [this]
      · rw [if_neg hm, if_neg hm]
        have := ih (s.length - (j + (i + 1))) (by omega) (i + 1) a rfl
        rw [← Nat.add_assoc] at this
        rw [this]
    · rw [dif_neg hc, dif_neg (by rw [List.length_drop]; omega), e3]
theorem spl_none {c : UInt8} {s : List UInt8} : ∀ (q : List UInt8) (i a : Nat), s.drop i = q → c ∉ q → splGo [c] s i a = [s.drop a] := by
  intro q
  induction q with
  | nil =>
    intro i a h _
    have : s.length ≤ i := List.drop_eq_nil_iff.1 h
    rw [splGo, dif_neg (by simp; omega)]
  | cons x q ih =>
    intro i a h hc
    have hi : i < s.length := by
      rcases Nat.lt_or_ge i s.length with hlt | hge
      · exact hlt
      · rw [List.drop_eq_nil_of_le hge] at h; cases h
    have hx : List.drop i (List.take (i + 1) s) = [x] := by
      rw [← List.take_drop, h]; rfl
    have hq : s.drop (i + 1) = q := by rw [← List.drop_drop, h]; rfl
    rw [splGo, dif_pos ⟨by simp; omega, by simp⟩]
    simp only [List.length_cons, List.length_nil, Nat.zero_add]
    rw [hx, if_neg (fun e => hc (by rw [List.cons.inj e |>.1]; simp))]
    exact ih (i + 1) a hq (fun e => hc (List.mem_cons_of_mem _ e))
theorem spl_some {c : UInt8} {s b : List UInt8} : ∀ (p : List UInt8) (i a : Nat), s.drop i = p ++ c :: b → c ∉ p → splGo [c] s i a = (s.take (i + p.length)).drop a :: splGo [c] s (i + p.length + 1) (i + p.length + 1) := by
  intro p
  induction p with
  | nil =>
    intro i a h _
    have hi : i < s.length := by
      rcases Nat.lt_or_ge i s.length with hlt | hge
      · exact hlt
      · rw [List.drop_eq_nil_of_le hge] at h; cases h
    have hx : List.drop i (List.take (i + 1) s) = [c] := by
      rw [← List.take_drop, h]; rfl
    rw [splGo, dif_pos ⟨by simp; omega, by simp⟩]
    simp only [List.length_cons, List.length_nil, Nat.zero_add]
    rw [if_pos hx]; rfl
  | cons x q ih =>
    intro i a h hc
    have hi : i < s.length := by
      rcases Nat.lt_or_ge i s.length with hlt | hge
      · exact hlt
      · rw [List.drop_eq_nil_of_le hge] at h; cases h
    have hx : List.drop i (List.take (i + 1) s) = [x] := by
      rw [← List.take_drop, h]; rfl
    have hq : s.drop (i + 1) = q ++ c :: b := by rw [← List.drop_drop, h]; rfl
    rw [splGo, dif_pos ⟨by simp; omega, by simp⟩]
    simp only [List.length_cons, List.length_nil, Nat.zero_add]
    rw [hx, if_neg (fun e => hc (by rw [List.cons.inj e |>.1]; simp)), ih (i + 1) a hq (fun e => hc (List.mem_cons_of_mem _ e))]
    rw [show i + 1 + q.length = i + (q.length + 1) by omega]
theorem splS_none {c : UInt8} {s : List UInt8} (h : c ∉ s) : splS c s = [s] := spl_none s 0 0 rfl h
theorem splS_some {c : UInt8} {a b : List UInt8} (h : c ∉ a) : splS c (a ++ c :: b) = a :: splS c b := by
  unfold splS
  rw [spl_some (s := a ++ c :: b) (b := b) a 0 0 rfl h]
  have e := splGo_shift (sep := [c]) (s := a ++ c :: b) (j := a.length + 1) (by simp) _ 0 0 rfl
  simp only [Nat.add_zero] at e
  rw [Nat.zero_add, e]
  congr 1
  · simp
  · congr 1; simp
theorem index_none {c : UInt8} : ∀ {s : List UInt8}, c ∉ s → Lib.index s [c] = -1 := by
  intro s h
  rw [Lib.index_one]
  induction s with
  | nil => rfl
  | cons b l ih =>
    have h1 : (b == c) = false := beq_eq_false_iff_ne.2 (fun e => h (by rw [e]; simp))
    have := ih (fun e => h (List.mem_cons_of_mem _ e))
    simp only [Lib.indexByte, h1, this]; rfl
theorem index_some {c : UInt8} {b : List UInt8} : ∀ {a : List UInt8}, c ∉ a → Lib.index (a ++ c :: b) [c] = a.length := by
  intro a h
  rw [Lib.index_one]
  induction a with
  | nil => simp [Lib.indexByte]
  | cons x l ih =>
    have h1 : (x == c) = false := beq_eq_false_iff_ne.2 (fun e => h (by rw [e]; simp))
    have := ih (fun e => h (List.mem_cons_of_mem _ e))
    have h2 : ((l.length : Int) == -1) = false := beq_eq_false_iff_ne.2 (by omega)
    simp only [List.cons_append, Lib.indexByte, h1, this, h2]
    simp
theorem words_split (s : List UInt8) : Rc.words s = Lib.splitK [58] 0 (Lib.count s [58]) s := by
  unfold Rc.words; rw [Lib.splitB_data]
theorem words_eq : ∀ (n : Nat) (s : List UInt8), s.length = n → Rc.words s = splS 58 s := by
  intro n
  induction n using Nat.strongRecOn with
  | _ n ih =>
    intro s hn
    by_cases hc : (58 : UInt8) ∈ s
    · obtain ⟨a, b, rfl, ha⟩ := List.eq_append_cons_of_mem hc
      rw [splS_some ha, words_split, Lib.count_hit (by simp) (index_some ha)]
      have hi := index_some (b := b) ha
      have e : List.drop (a.length + [(58 : UInt8)].length) (a ++ 58 :: b) = b := by simp
      rw [e, Nat.add_comm, Lib.splitK, if_neg (by rw [hi]; simp), hi]
      simp only [Int.toNat_natCast, Nat.add_zero]
      rw [e, ← words_split, ih b.length (by simp at hn; omega) b rfl]
      congr 1
      simp
    · rw [splS_none hc, words_split, Lib.count_miss (index_none hc)]; rfl
theorem cut_none {s : List UInt8} (h : (46 : UInt8) ∉ s) : Lib.cut s [46] = (s, [], false) := by
  unfold Lib.cut; rw [index_none h, if_neg (by omega)]
theorem cut_some {a b : List UInt8} (h : (46 : UInt8) ∉ a) : Lib.cut (a ++ 46 :: b) [46] = (a, b, true) := by
  unfold Lib.cut
  rw [index_some h, if_pos (by omega)]
  simp
theorem digV_snd {w : List UInt8} {c : Nat} : (digV w c).2 = (decide (w.length = c) && allDig w) := by
  unfold digV
  by_cases h1 : w.length = c <;> cases h2 : allDig w <;> simp [h1]
theorem digV_fst {w : List UInt8} {c : Nat} (h : (digV w c).2 = true) : (digV w c).1 = decV w := by
  unfold digV at *
  split
  · rfl
  · rename_i hn; rw [if_neg hn] at h; cases h
theorem read_eq (s : List UInt8) : refClk s = Rc.readClk s := by
  unfold refClk Rc.readClk
  by_cases hl : 24 < s.length
  · rw [if_pos hl, if_pos hl]
  rw [if_neg hl, if_neg hl]
  by_cases hc : (46 : UInt8) ∈ s
  · obtain ⟨a, b, rfl, ha⟩ := List.eq_append_cons_of_mem hc
    rw [splS_some ha, cut_some ha]
    simp only
    by_cases hb : (46 : UInt8) ∈ b
    · have hd : (digV b 3).2 = false := by
        rw [digV_snd]
        have : allDig b = false := by
          unfold allDig; rw [List.all_eq_false]; exact ⟨46, hb, by decide⟩
        rw [this, Bool.and_false]
      rw [if_neg (by simp [hd])]
      obtain ⟨p, q, rfl, hp⟩ := List.eq_append_cons_of_mem hb
      rw [splS_some hp]
      have := splGo_ne (sep := [46]) (s := q) (i := 0) (a := 0)
      cases hq : splS 46 q with
      | nil => exact absurd hq this
      | cons x l => rfl
    · rw [splS_none hb]
      simp only
      have hw := words_eq _ a rfl
      by_cases h3 : b.length = 3 ∧ allDig b = true
      · have hd : (digV b 3).2 = true := by rw [digV_snd]; simp [h3]
        have hd1 := digV_fst hd
        rw [if_pos h3]
        unfold Rc.flds
        rw [hw]
        have hne := splGo_ne (sep := [58]) (s := a) (i := 0) (a := 0)
        rcases hL : splS 58 a with _ | ⟨w, _ | ⟨x, _ | ⟨y, _ | ⟨z, L⟩⟩⟩⟩
        · exact absurd hL hne
        · simp only [List.mapIdx_cons, List.mapIdx_nil, Rc.fld, if_true, hd, hd1, List.all_cons, List.all_nil, Bool.true_and, Bool.and_true, List.length_cons, List.length_nil, Rc.clkGo, Rc.most]
          cases (intV w).2 <;> simp
          split <;> simp; omega
        · have e0 : Rc.fld 0 w = intV w := if_pos rfl
          have e1 : Rc.fld (0 + 1) x = digV x 2 := if_neg (by omega)
          have t1 : twoDig [x] = (digV x 2).2 := by rw [digV_snd]; simp [twoDig]
          simp only [List.mapIdx_cons, List.mapIdx_nil, e0, e1, hd, hd1, t1, List.all_cons, List.all_nil, Bool.true_and, Bool.and_true, List.length_cons, List.length_nil, Rc.clkGo]
          cases hw2 : (intV w).2 with
          | false => simp
          | true =>
            cases hx2 : (digV x 2).2 with
            | false => simp
            | true =>
              rw [digV_fst hx2]
              have m0 : Rc.most (0 + 1 + 1) 0 = 59 := rfl
              have m1 : Rc.most (0 + 1 + 1) (0 + 1) = 59 := rfl
              rw [m0, m1, if_pos ⟨rfl, rfl⟩]
              by_cases k1 : 59 < decV x ∨ 59 < (intV w).1
              · rw [if_pos k1, if_pos ⟨by simp, by omega⟩, if_pos (by simp; omega)]
              · rw [if_neg k1, if_pos ⟨by simp, by omega⟩, if_neg (by simp; omega)]
                exact Prod.ext (by simp; omega) rfl
        · have e0 : Rc.fld 0 w = intV w := if_pos rfl
          have e1 : Rc.fld (0 + 1) x = digV x 2 := if_neg (by omega)
          have e2 : Rc.fld (0 + 1 + 1) y = digV y 2 := if_neg (by omega)
          have t1 : twoDig [x, y] = ((digV x 2).2 && (digV y 2).2) := by rw [digV_snd, digV_snd]; simp [twoDig]
          simp only [List.mapIdx_cons, List.mapIdx_nil, e0, e1, e2, hd, hd1, t1, List.all_cons, List.all_nil, Bool.true_and, Bool.and_true, List.length_cons, List.length_nil, Rc.clkGo]
          cases hw2 : (intV w).2 with
          | false => simp
          | true =>
            cases hx2 : (digV x 2).2 with
            | false => simp
            | true =>
              cases hy2 : (digV y 2).2 with
              | false => simp
              | true =>
                rw [digV_fst hx2, digV_fst hy2]
                have m0 : Rc.most (0 + 1 + 1 + 1) 0 = 23 := rfl
                have m1 : Rc.most (0 + 1 + 1 + 1) (0 + 1) = 59 := rfl
                have m2 : Rc.most (0 + 1 + 1 + 1) (0 + 1 + 1) = 59 := rfl
                rw [m0, m1, m2, if_pos ⟨rfl, rfl⟩]
                by_cases k1 : 59 < decV x ∨ 59 < decV y ∨ 23 < (intV w).1
                · rw [if_pos k1, if_pos ⟨by simp, by omega⟩, if_pos (by simp; omega)]
                · rw [if_neg k1, if_pos ⟨by simp, by omega⟩, if_neg (by simp; omega)]
                  exact Prod.ext (by simp; omega) rfl
        · rw [if_neg (by simp)]
      · have hd : (digV b 3).2 = false := by
          rw [digV_snd]
          cases h4 : allDig b with
          | false => simp
          | true => simp; exact fun e => h3 ⟨e, h4⟩
        rw [if_neg h3, if_neg (by simp [hd])]
  · rw [splS_none hc, cut_none hc]
    simp
end Go.Ae


/- Texts: strings.Split and the reference's Split give the same parts, at any separator. -/
set_option linter.unusedVariables false
set_option linter.unusedSimpArgs false
namespace Go.Ae
open N Go.Proofs
theorem least {p : Nat → Prop} (h : ∃ n, p n) : ∃ n, p n ∧ ∀ m, m < n → ¬ p m := by
  obtain ⟨n, hn⟩ := h
  induction n using Nat.strongRecOn with
  | _ n ih =>
    by_cases h : ∃ m, m < n ∧ p m
    · obtain ⟨m, hm, hp⟩ := h; exact ih m hm hp
    · exact ⟨n, hn, fun m hm hp => h ⟨m, hm, hp⟩⟩
theorem occ_take {s sep : List UInt8} {i : Nat} (hi : i + sep.length ≤ s.length) : Lib.occAt s sep i = true ↔ (s.take (i + sep.length)).drop i = sep := by
  rw [Lib.occAt_iff_take _ _ _ hi, ← List.take_drop, beq_iff_eq]
theorem spl_noneG {sep s : List UInt8} (hp : 0 < sep.length) : ∀ (n i a : Nat), s.length - i = n → (∀ j, i ≤ j → Lib.occAt s sep j = false) → splGo sep s i a = [s.drop a] := by
  intro n
  induction n using Nat.strongRecOn with
  | _ n ih =>
    intro i a hn hno
    rw [splGo_eq]
    split
    · rename_i hc
      rw [if_neg (fun e => by have := hno i (Nat.le_refl _); rw [(occ_take hc.1).2 e] at this; cases this)]
      exact ih (s.length - (i + 1)) (by omega) (i + 1) a rfl (fun j hj => hno j (by omega))
    · rfl
theorem spl_someG {sep s : List UInt8} (hp : 0 < sep.length) : ∀ (n i j a : Nat), j - i = n → i ≤ j → Lib.occAt s sep j = true → (∀ m, i ≤ m → m < j → Lib.occAt s sep m = false) → splGo sep s i a = (s.take j).drop a :: splGo sep s (j + sep.length) (j + sep.length) := by
  intro n
  induction n with
  | zero =>
    intro i j a hn hij ho hno
    obtain rfl : i = j := by omega
    have hr : i + sep.length ≤ s.length := by
      rcases Lib.occAt_room ho with h | h
      · exact h
      · subst h; simp at hp
    rw [splGo_eq, dif_pos ⟨hr, hp⟩, if_pos ((occ_take hr).1 ho)]
  | succ n ih =>
    intro i j a hn hij ho hno
    have hr : j + sep.length ≤ s.length := by
      rcases Lib.occAt_room ho with h | h
      · exact h
      · subst h; simp at hp
    rw [splGo_eq, dif_pos ⟨by omega, hp⟩, if_neg (fun e => by have := hno i (Nat.le_refl _) (by omega); rw [(occ_take (by omega)).2 e] at this; cases this)]
    exact ih (i + 1) j a (by omega) (by omega) ho (fun m h1 h2 => hno m (by omega) h2)
theorem index_cases {s sep : List UInt8} (hp : 0 < sep.length) : (Lib.index s sep = -1 ∧ ∀ j, Lib.occAt s sep j = false) ∨ ∃ i : Nat, Lib.index s sep = i ∧ Lib.occAt s sep i = true ∧ i + sep.length ≤ s.length ∧ ∀ j, j < i → Lib.occAt s sep j = false := by
  by_cases h : ∃ i, Lib.occAt s sep i = true
  · obtain ⟨i, hi, hl⟩ := least h
    have hl' : ∀ j, j < i → Lib.occAt s sep j = false := fun j hj => by simpa using hl j hj
    have hr : i + sep.length ≤ s.length := by
      rcases Lib.occAt_room hi with h | h
      · exact h
      · subst h; simp at hp
    exact .inr ⟨i, Lib.index_first (by omega) hi hl', hi, hr, hl'⟩
  · have hn : ∀ j, Lib.occAt s sep j = false := fun j => by
      cases hb : Lib.occAt s sep j with
      | false => rfl
      | true => exact absurd ⟨j, hb⟩ h
    exact .inl ⟨Lib.index_none fun j _ => hn j, hn⟩
theorem split_eq {sep : List UInt8} (hp : 0 < sep.length) : ∀ (n : Nat) (s : List UInt8), s.length = n → Lib.splitK sep 0 (Lib.count s sep) s = splGo sep s 0 0 := by
  intro n
  induction n using Nat.strongRecOn with
  | _ n ih =>
    intro s hn
    have hne : sep ≠ [] := fun e => by subst e; simp at hp
    rcases index_cases (s := s) hp with ⟨h1, h2⟩ | ⟨i, h1, h2, h3, h4⟩
    · rw [Lib.count_miss h1, spl_noneG hp _ 0 0 rfl (fun j _ => h2 j)]; rfl
    · rw [Lib.count_hit hne h1, Nat.add_comm, Lib.splitK, if_neg (by rw [h1]; simp), h1, Int.toNat_natCast,
        ih (s.drop (i + sep.length)).length (by rw [List.length_drop]; omega) _ rfl, spl_someG hp _ 0 i 0 rfl (Nat.zero_le _) h2 (fun m _ hm => h4 m hm)]
      have := splGo_shift (sep := sep) (s := s) (j := i + sep.length) h3 _ 0 0 rfl
      simp only [Nat.add_zero] at this
      rw [this]; simp
theorem wordsB_eq {s sep : List UInt8} (hp : 0 < sep.length) : wordsB s sep = splGo sep s 0 0 := by
  rw [← split_eq hp _ s rfl]
  unfold wordsB
  rw [Lib.splitB_data]
/-! One byte. -/
theorem cut_noneC {c : UInt8} {s : List UInt8} (h : c ∉ s) : Lib.cut s [c] = (s, [], false) := by
  unfold Lib.cut; rw [index_none h, if_neg (by omega)]
theorem cut_someC {c : UInt8} {a b : List UInt8} (h : c ∉ a) : Lib.cut (a ++ c :: b) [c] = (a, b, true) := by
  unfold Lib.cut
  rw [index_some h, if_pos (by omega)]
  simp
end Go.Ae


/- Further functions of the program, as code of the abstract evaluator (printed by mkX.py). -/
set_option maxRecDepth 100000
namespace Go.Ae.T
open AOp Opd C
def a7 : AFn := ⟨108, [.tmp 4], (.seq (.reg [o 4 (.mv (.k (.bool false)))])
  (.seq (.seq (.reg [o 15 (.callF 17 []),o 16 (.un .not (.t 15)),o 17 (m 16),g 18 (m 0) 17 false,g 19 (.len .slice (.t 18)) 17 false,g 20 (.bin .gtr .none (.t 19) (.k (.int .i64 260))) 17 false,o 21 (.pick (.t 17) (.k (.bool true)) (.t 20)),o 22 (m 21),g 23 (m 1) 22 false,g 24 (.len .str (.t 23)) 22 false,g 25 (.bin .gtr .none (.t 24) (.k (.int .i64 4200))) 22 false,o 26 (.pick (.t 22) (.k (.bool true)) (.t 25))])
   (.cond (.t 26) (.seq (.reg [o 27 (.callF 17 []),o 4 (m 27)])
    .ret)
   .skip))
  (.seq (.seq (.reg [o 5 (.mv (.k (.int .i64 0)))])
   (.block 0 (.loop (.seq (.seq (.reg [o 28 (m 5),o 29 (m 0),o 30 (.len .slice (.t 29)),o 31 (.bin .lss .none (.t 28) (.t 30))])
      (.cond (.t 31) .skip
      (.exit 0)))
     (.seq (.block 1 (.seq (.seq (.reg [o 34 (m 0),o 35 (m 5),o 36 (.iadr 5 (.t 34) (.t 35)),o 37 (.fadr 0 (.t 36)),o 38 (.load false 1 (.t 37)),o 39 (.len .str (.t 38)),o 40 (.bin .gtr .none (.t 39) (.k (.int .i64 20)))])
        (.cond (.t 40) (.seq (.reg [o 4 (.mv (.k (.bool true)))])
         .ret)
        .skip))
       (.seq (.dreg [o 41 (m 0),o 42 (m 5),o 43 (.iadr 5 (.t 41) (.t 42)),⟨(some 44), .load true 5 (.t 43), none, (some 3)⟩,o 45 (.callF 46 [(.t 44)]),o 46 (m 0),o 47 (m 5),o 48 (.iadr 5 (.t 46) (.t 47)),⟨(some 49), .load true 5 (.t 48), none, (some 8)⟩,o 50 (.callF 47 [(.t 49)]),o 51 (.bin .neq .none (.t 45) (.t 50))])
       (.cond (.t 51) (.seq (.reg [o 4 (.mv (.k (.bool false)))])
        .ret)
       .skip))))
     (.reg [o 32 (m 5),o 33 (.bin .add .none (.t 32) (.k (.int .i64 1))),o 5 (m 33)]))))))
  (.seq (.reg [o 53 (m 0),o 54 (.callF 48 [(.t 53)]),o 52 (m 54),o 55 (.ext (.t 52) 0),o 56 (.ext (.t 52) 1),o 6 (m 55),o 7 (m 56)])
  (.seq (.reg [o 57 (m 0),o 58 (.callF 50 [(.t 57)]),o 59 (.callF 49 [(.t 58)]),o 8 (m 59)])
  (.seq (.seq (.reg [o 60 (m 8),o 61 (.bin .neq .none (.t 60) (.k (.int .i64 0))),o 62 (m 61),g 63 (m 6) 62 true,g 64 (m 7) 62 true,g 65 (m 8) 62 true,g 66 (.callF 41 [(.t 63), (.t 64), (.t 65), (.k (.str []))]) 62 true,g 67 (.un .not (.t 66)) 62 true,o 68 (.pick (.t 62) (.t 67) (.k (.bool false))),o 69 (m 68),g 70 (m 8) 69 false,g 71 (.bin .eql .none (.t 70) (.k (.int .i64 0))) 69 false,g 72 (m 71) 69 false,g 73 (m 6) 72 true,g 74 (m 7) 72 true,g 75 (m 0) 72 true,g 76 (.callF 50 [(.t 75)]) 72 true,g 77 (.callF 51 [(.t 76)]) 72 true,g 78 (.callF 41 [(.t 73), (.t 74), (.k (.int .i64 0)), (.t 77)]) 72 true,g 79 (.un .not (.t 78)) 72 true,g 80 (.pick (.t 72) (.t 79) (.k (.bool false))) 69 false,o 81 (.pick (.t 69) (.k (.bool true)) (.t 80))])
   (.cond (.t 81) (.seq (.reg [o 4 (.mv (.k (.bool false)))])
    .ret)
   .skip))
  (.seq (.reg [o 83 (m 1),o 84 (.callF 52 [(.t 83)]),o 82 (m 84),o 85 (.ext (.t 82) 0),o 86 (.ext (.t 82) 1),o 87 (.ext (.t 82) 2),o 9 (m 85),o 10 (m 86),o 11 (m 87)])
  (.seq (.reg [o 89 (m 1),o 90 (.callF 53 [(.t 89)]),o 88 (m 90),o 91 (.ext (.t 88) 0),o 92 (.ext (.t 88) 1),o 93 (.ext (.t 88) 2),o 12 (m 91),o 13 (m 92),o 14 (m 93)])
  (.seq (.reg [o 94 (m 10),o 95 (m 13),o 96 (.bin .eql .none (.t 94) (.t 95)),o 97 (m 96),g 98 (m 11) 97 true,g 99 (m 14) 97 true,g 100 (.bin .eql .none (.t 98) (.t 99)) 97 true,o 101 (.pick (.t 97) (.t 100) (.k (.bool false))),o 102 (m 101),g 103 (m 9) 102 true,g 104 (.callF 50 [(.t 103)]) 102 true,g 105 (m 12) 102 true,g 106 (.callF 54 [(.t 104), (.t 105)]) 102 true,o 107 (.pick (.t 102) (.t 106) (.k (.bool false))),o 4 (m 107)])
  .ret)))))))))⟩
def a51 : AFn := ⟨24, [.tmp 2], (.seq (.reg [o 2 (.mv (.k (.str [])))])
  (.seq (.reg [o 5 (m 0),o 6 (.iadr 5 (.t 5) (.k (.int .i64 0))),o 7 (.load true 5 (.t 6)),o 8 (.callF 156 [(.t 7)]),o 3 (m 8)])
  (.seq (.seq (.reg [o 4 (.mv (.k (.int .i64 1)))])
   (.block 0 (.loop (.seq (.seq (.reg [o 9 (m 4),o 10 (m 0),o 11 (.len .slice (.t 10)),o 12 (.bin .lss .none (.t 9) (.t 11))])
      (.cond (.t 12) .skip
      (.exit 0)))
     (.seq (.block 1 (.reg [o 15 (m 3),o 16 (.bin .add .none (.t 15) (.k (.str [32, 47, 32]))),o 17 (m 0),o 18 (m 4),o 19 (.iadr 5 (.t 17) (.t 18)),o 20 (.load true 5 (.t 19)),o 21 (.callF 156 [(.t 20)]),o 22 (.bin .add .none (.t 16) (.t 21)),o 3 (m 22)]))
     (.reg [o 13 (m 4),o 14 (.bin .add .none (.t 13) (.k (.int .i64 1))),o 4 (m 14)]))))))
  (.seq (.reg [o 23 (m 3),o 2 (m 23)])
  .ret))))⟩
def a53 : AFn := ⟨68, [.tmp 2, .tmp 3, .tmp 4], (.seq (.reg [o 2 (.mv (.k (.nils))),o 3 (.mv (.k (.int .i64 0))),o 4 (.mv (.k (.int .i64 0)))])
  (.seq (.seq (.reg [o 11 (m 0),o 12 (.len .str (.t 11)),o 13 (.bin .gtr .none (.t 12) (.k (.int .i64 4096)))])
   (.cond (.t 13) (.seq (.reg [o 2 (.mv (.k (.nils))),o 3 (.mv (.k (.int .i64 0))),o 4 (.mv (.k (.int .i64 26)))])
    .ret)
   .skip))
  (.seq (.seq (.reg [o 14 (m 0),o 15 (.len .str (.t 14)),o 16 (.bin .eql .none (.t 15) (.k (.int .i64 0)))])
   (.cond (.t 16) (.seq (.reg [o 2 (.mv (.k (.nils))),o 3 (.mv (.k (.int .i64 0))),o 4 (.mv (.k (.int .i64 12)))])
    .ret)
   .skip))
  (.seq (.reg [o 17 (m 0),o 18 (.callF 150 [(.t 17), (.k (.str [32, 47, 32]))]),o 5 (m 18)])
  (.seq (.reg [o 6 (.mv (.k (.nils)))])
  (.seq (.seq (.reg [o 7 (.mv (.k (.int .i64 0)))])
   (.block 0 (.loop (.seq (.seq (.reg [o 19 (m 7),o 20 (m 5),o 21 (.len .slice (.t 20)),o 22 (.bin .lss .none (.t 19) (.t 21))])
      (.cond (.t 22) .skip
      (.exit 0)))
     (.seq (.block 1 (.seq (.reg [o 26 (m 5),o 27 (m 7),o 28 (.iadr 1 (.t 26) (.t 27)),o 29 (.load false 1 (.t 28)),o 30 (.callF 160 [(.t 29)]),o 25 (m 30),o 31 (.ext (.t 25) 0),o 32 (.ext (.t 25) 1),o 8 (.alloc [.str [], .int .i64 0, .bool false, .int .i64 0, .int .i64 0]),n (.store 5 (.t 8) (.t 31)),o 9 (m 32)])
       (.seq (.seq (.reg [o 33 (m 9),o 34 (.un .not (.t 33))])
        (.cond (.t 34) (.seq (.reg [o 35 (m 7),o 36 (.bin .add .none (.t 35) (.k (.int .i64 1))),o 2 (.mv (.k (.nils))),o 3 (m 36),o 4 (.mv (.k (.int .i64 25)))])
         .ret)
        .skip))
       (.seq (.seq (.reg [o 37 (m 7),o 38 (.bin .geq .none (.t 37) (.k (.int .i64 256)))])
        (.cond (.t 38) (.seq (.reg [o 39 (m 7),o 40 (.bin .add .none (.t 39) (.k (.int .i64 1))),o 2 (.mv (.k (.nils))),o 3 (m 40),o 4 (.mv (.k (.int .i64 5)))])
         .ret)
        .skip))
       (.seq (.reg [o 41 (.load true 5 (.t 8)),o 42 (.callF 47 [(.t 41)]),o 10 (m 42)])
       (.seq (.seq (.dreg [o 43 (m 10),o 44 (.bin .eql .none (.t 43) (.k (.int .i64 0))),o 45 (m 44),g 46 (m 7) 45 true,g 47 (.bin .gtr .none (.t 46) (.k (.int .i64 0))) 45 true,o 48 (.pick (.t 45) (.t 47) (.k (.bool false))),o 49 (m 48),g 50 (.fadr 0 (.t 8)) 49 true,⟨(some 51), .load false 1 (.t 50), (some (49, true)), (some 8)⟩,g 52 (m 6) 49 true,g 53 (.iadr 5 (.t 52) (.k (.int .i64 0))) 49 true,g 54 (.fadr 0 (.t 53)) 49 true,⟨(some 55), .load false 1 (.t 54), (some (49, true)), (some 12)⟩,g 56 (.bin .neq .none (.t 51) (.t 55)) 49 true,o 57 (.pick (.t 49) (.t 56) (.k (.bool false)))])
        (.cond (.t 57) (.reg [o 10 (.mv (.k (.int .i64 13)))])
        .skip))
       (.seq (.seq (.reg [o 58 (m 10),o 59 (.bin .neq .none (.t 58) (.k (.int .i64 0)))])
        (.cond (.t 59) (.seq (.reg [o 60 (m 7),o 61 (.bin .add .none (.t 60) (.k (.int .i64 1))),o 62 (m 10),o 2 (.mv (.k (.nils))),o 3 (m 61),o 4 (m 62)])
         .ret)
        .skip))
       (.reg [o 63 (m 6),o 64 (.load true 5 (.t 8)),o 65 (.bslice 5 1 [.str [], .int .i64 0, .bool false, .int .i64 0, .int .i64 0] [(0, 5, (.t 64))]),o 66 (.app 5 48 (.t 63) (.t 65)),o 6 (m 66)]))))))))
     (.reg [o 23 (m 7),o 24 (.bin .add .none (.t 23) (.k (.int .i64 1))),o 7 (m 24)]))))))
  (.seq (.reg [o 67 (m 6),o 2 (m 67),o 3 (.mv (.k (.int .i64 0))),o 4 (.mv (.k (.int .i64 0)))])
  .ret)))))))⟩
def a156 : AFn := ⟨26, [.tmp 2], (.seq (.reg [o 1 (.box (.t 0)),o 2 (.mv (.k (.str [])))])
  (.seq (.seq (.reg [o 3 (.fadr 0 (.t 1)),o 4 (.load false 1 (.t 3)),o 5 (.bin .eql .none (.t 4) (.k (.str [98, 111, 117, 108, 100, 101, 114])))])
   (.cond (.t 5) (.seq (.dreg [o 6 (.fadr 3 (.t 1)),⟨(some 7), .load false 1 (.t 6), none, (some 1)⟩,o 8 (.callF 236 [(.k (.str [84])), (.t 7)]),o 9 (.bin .add .none (.t 8) (.k (.str [32]))),o 10 (.fadr 4 (.t 1)),⟨(some 11), .load false 1 (.t 10), none, (some 5)⟩,o 12 (.callF 236 [(.k (.str [90])), (.t 11)]),o 13 (.bin .add .none (.t 9) (.t 12)),o 2 (m 13)])
    .ret)
   .skip))
  (.seq (.seq (.reg [o 14 (.fadr 3 (.t 1)),o 15 (.load false 1 (.t 14)),o 16 (.bin .eql .none (.t 15) (.k (.int .i64 1)))])
   (.cond (.t 16) (.seq (.reg [o 2 (.mv (.k (.str [84, 79, 80])))])
    .ret)
   .skip))
  (.seq (.seq (.reg [o 17 (.fadr 2 (.t 1)),o 18 (.load false 1 (.t 17))])
   (.cond (.t 18) (.seq (.reg [o 19 (.fadr 1 (.t 1)),o 20 (.load false 1 (.t 19)),o 21 (.callF 146 [(.t 20), (.k (.int .i64 1))]),o 22 (.bin .add .none (.t 21) (.k (.str [43]))),o 2 (m 22)])
    .ret)
   .skip))
  (.seq (.reg [o 23 (.fadr 1 (.t 1)),o 24 (.load false 1 (.t 23)),o 25 (.callF 146 [(.t 24), (.k (.int .i64 1))]),o 2 (m 25)])
  .ret)))))⟩
def a160 : AFn := ⟨67, [.cell 2 true 5, .tmp 3], (.seq (.reg [o 2 (.alloc [.str [], .int .i64 0, .bool false, .int .i64 0, .int .i64 0]),o 3 (.mv (.k (.bool false)))])
  (.seq (.seq (.reg [o 12 (m 0),o 13 (.bin .eql .none (.t 12) (.k (.str [84, 79, 80])))])
   (.cond (.t 13) (.seq (.reg [o 14 (.build [.str [], .int .i64 0, .bool false, .int .i64 0, .int .i64 0] [(0, 1, (.k (.str [108, 101, 97, 100]))), (3, 1, (.k (.int .i64 1)))]),n (.store 5 (.t 2) (.t 14)),o 3 (.mv (.k (.bool true)))])
    .ret)
   .skip))
  (.seq (.reg [o 15 (m 0),o 16 (.callF 150 [(.t 15), (.k (.str [32]))]),o 4 (m 16)])
  (.seq (.seq (.reg [o 17 (m 4),o 18 (.len .slice (.t 17)),o 19 (.bin .eql .none (.t 18) (.k (.int .i64 2)))])
   (.cond (.t 19) (.seq (.reg [o 21 (m 4),o 22 (.iadr 1 (.t 21) (.k (.int .i64 0))),o 23 (.load false 1 (.t 22)),o 24 (.callF 240 [(.k (.int .u8 84)), (.t 23)]),o 20 (m 24),o 25 (.ext (.t 20) 0),o 26 (.ext (.t 20) 1),o 5 (m 25),o 6 (m 26)])
    (.seq (.reg [o 28 (m 4),o 29 (.iadr 1 (.t 28) (.k (.int .i64 1))),o 30 (.load false 1 (.t 29)),o 31 (.callF 240 [(.k (.int .u8 90)), (.t 30)]),o 27 (m 31),o 32 (.ext (.t 27) 0),o 33 (.ext (.t 27) 1),o 7 (m 32),o 8 (m 33)])
    (.seq (.reg [o 34 (m 5),o 35 (m 7),o 36 (.build [.str [], .int .i64 0, .bool false, .int .i64 0, .int .i64 0] [(0, 1, (.k (.str [98, 111, 117, 108, 100, 101, 114]))), (3, 1, (.t 34)), (4, 1, (.t 35))]),o 37 (m 6),o 38 (m 37),g 39 (m 8) 38 true,o 40 (.pick (.t 38) (.t 39) (.k (.bool false))),n (.store 5 (.t 2) (.t 36)),o 3 (m 40)])
    .ret)))
   .skip))
  (.seq (.reg [o 41 (m 0),o 42 (.len .str (.t 41)),o 43 (.bin .gtr .none (.t 42) (.k (.int .i64 0))),o 44 (m 43),g 45 (m 0) 44 true,g 46 (m 0) 44 true,g 47 (.len .str (.t 46)) 44 true,g 48 (.bin .sub .none (.t 47) (.k (.int .i64 1))) 44 true,g 49 (.idxs (.t 45) (.t 48)) 44 true,g 50 (.bin .eql .none (.t 49) (.k (.int .u8 43))) 44 true,o 51 (.pick (.t 44) (.t 50) (.k (.bool false))),o 9 (m 51)])
  (.seq (.seq (.reg [o 52 (m 9)])
   (.cond (.t 52) (.reg [o 53 (m 0),o 54 (m 0),o 55 (.len .str (.t 54)),o 56 (.bin .sub .none (.t 55) (.k (.int .i64 1))),o 57 (.sls (.t 53) none (some (.t 56))),o 0 (m 57)])
   .skip))
  (.seq (.reg [o 59 (m 0),o 60 (.callF 152 [(.t 59)]),o 58 (m 60),o 61 (.ext (.t 58) 0),o 62 (.ext (.t 58) 1),o 10 (m 61),o 11 (m 62)])
  (.seq (.reg [o 63 (m 10),o 64 (m 9),o 65 (.build [.str [], .int .i64 0, .bool false, .int .i64 0, .int .i64 0] [(0, 1, (.k (.str [108, 101, 97, 100]))), (1, 1, (.t 63)), (2, 1, (.t 64))]),o 66 (m 11),n (.store 5 (.t 2) (.t 65)),o 3 (m 66)])
  .ret))))))))⟩
def a236 : AFn := ⟨11, [.tmp 4], (.seq (.reg [o 4 (.mv (.k (.str [])))])
  (.seq (.seq (.reg [o 5 (m 1),o 6 (.bin .eql .none (.t 5) (.k (.int .i64 0)))])
   (.cond (.t 6) (.seq (.reg [o 4 (.mv (.k (.str [45])))])
    .ret)
   .skip))
  (.seq (.reg [o 7 (m 0),o 8 (m 1),o 9 (.callF 146 [(.t 8), (.k (.int .i64 1))]),o 10 (.bin .add .none (.t 7) (.t 9)),o 4 (m 10)])
  .ret)))⟩
def a240 : AFn := ⟨31, [.tmp 4, .tmp 5], (.seq (.reg [o 4 (.mv (.k (.int .i64 0))),o 5 (.mv (.k (.bool false)))])
  (.seq (.seq (.reg [o 8 (m 1),o 9 (.bin .eql .none (.t 8) (.k (.str [45])))])
   (.cond (.t 9) (.seq (.reg [o 4 (.mv (.k (.int .i64 0))),o 5 (.mv (.k (.bool true)))])
    .ret)
   .skip))
  (.seq (.seq (.reg [o 10 (m 1),o 11 (.len .str (.t 10)),o 12 (.bin .lss .none (.t 11) (.k (.int .i64 2))),o 13 (m 12),g 14 (m 1) 13 false,g 15 (.idxs (.t 14) (.k (.int .i64 0))) 13 false,g 16 (m 0) 13 false,g 17 (.bin .neq .none (.t 15) (.t 16)) 13 false,o 18 (.pick (.t 13) (.k (.bool true)) (.t 17))])
   (.cond (.t 18) (.seq (.reg [o 4 (.mv (.k (.int .i64 0))),o 5 (.mv (.k (.bool false)))])
    .ret)
   .skip))
  (.seq (.reg [o 20 (m 1),o 21 (.sls (.t 20) (some (.k (.int .i64 1))) none),o 22 (.callF 152 [(.t 21)]),o 19 (m 22),o 23 (.ext (.t 19) 0),o 24 (.ext (.t 19) 1),o 6 (m 23),o 7 (m 24)])
  (.seq (.reg [o 25 (m 6),o 26 (m 7),o 27 (m 26),g 28 (m 6) 27 true,g 29 (.bin .gtr .none (.t 28) (.k (.int .i64 0))) 27 true,o 30 (.pick (.t 27) (.t 29) (.k (.bool false))),o 4 (m 25),o 5 (m 30)])
  .ret)))))⟩
def tab : T AFn := (.node (.node (.node (.node .nil (some a7) .nil) none (.node (.node .nil none (.node .nil (some a51) .nil)) none .nil)) none (.node .nil none (.node (.node .nil none (.node .nil (some a53) .nil)) none .nil))) none (.node (.node (.node (.node (.node .nil none (.node (.node .nil (some a160) .nil) none .nil)) none (.node .nil none (.node .nil none (.node .nil (some a240) .nil)))) none .nil) none (.node .nil none (.node (.node .nil none (.node .nil none (.node .nil (some a236) .nil))) none (.node (.node (.node .nil (some a156) .nil) none .nil) none .nil)))) none .nil))
section
open Go.Proofs
theorem b7 : Chk 7 a7 := by unfold Chk; kernel_rfl
theorem b51 : Chk 51 a51 := by unfold Chk; kernel_rfl
theorem b53 : Chk 53 a53 := by unfold Chk; kernel_rfl
theorem b156 : Chk 156 a156 := by unfold Chk; kernel_rfl
theorem b160 : Chk 160 a160 := by unfold Chk; kernel_rfl
theorem b236 : Chk 236 a236 := by unfold Chk; kernel_rfl
theorem b240 : Chk 240 a240 := by unfold Chk; kernel_rfl
theorem all : T.Forall Chk tab (fun n => n) := ⟨C.no, ⟨C.no, ⟨C.no, ⟨C.yes b7, trivial, trivial⟩, ⟨C.no, ⟨C.no, trivial, ⟨C.yes b51, trivial, trivial⟩⟩, trivial⟩⟩, ⟨C.no, trivial, ⟨C.no, ⟨C.no, trivial, ⟨C.yes b53, trivial, trivial⟩⟩, trivial⟩⟩⟩, ⟨C.no, ⟨C.no, ⟨C.no, ⟨C.no, ⟨C.no, trivial, ⟨C.no, ⟨C.yes b160, trivial, trivial⟩, trivial⟩⟩, ⟨C.no, trivial, ⟨C.no, trivial, ⟨C.yes b240, trivial, trivial⟩⟩⟩⟩, trivial⟩, ⟨C.no, trivial, ⟨C.no, ⟨C.no, trivial, ⟨C.no, trivial, ⟨C.yes b236, trivial, trivial⟩⟩⟩, ⟨C.no, ⟨C.no, ⟨C.yes b156, trivial, trivial⟩, trivial⟩, trivial⟩⟩⟩⟩, trivial⟩⟩
theorem good (n : Nat) (a : AFn) (h : tab.get n = some a) : chk Tryz.prog n = some a := T.get_forall tab (fun n => n) all n a h
end
end Go.Ae.T


/- Tickets: what the reference gives. -/
set_option linter.unusedVariables false
set_option linter.unusedSimpArgs false
set_option maxRecDepth 100000
namespace Go.Ae
open N Go.Proofs
noncomputable def E5 : Env := E3.add T.tab
theorem ge5 : Ge E2 E5 := ge3.trans (Ge.add _ _)
/-- What a walk wants to know of a slice of structs. -/
structure Rz (z : Nat) (h : Hp) (v : AV) (n : Nat) (cs : List AV) : Prop where
  len : lenK .slice v = some (.int .i64 n)
  adr : ∀ (k : IntKind) (i : Int), 0 ≤ i ∧ i < n → iadrK z v (.int k i) = some (.ptr (v.tok) (i.toNat * z))
  get : n ≠ 0 → ∃ own st, h.get v.tok = some (.row cs own st) ∧ v.tok < h.next ∧ st ≤ h.clk
section
variable {h : Hp} {K : AV → Hp → Prop}
theorem u5 {f : Nat} {args : List AV} {h' : Hp} {v : AV} (hc : ∀ K, CallWp E2 f args h K ↔ K v h') : CallWp E5 f args h K ↔ K v h' := up ge5 hc
theorem gu5 {f : Nat} {args : List AV} {v : AV} (hc : Gv E2 f args h v) : Gv E5 f args h v := hc.ge fun _ _ _ hk => hk.ge ge5
theorem gp5 {f : Nat} {args : List AV} {p : AV → Hp → Prop} (hc : Gp E2 f args h p) : Gp E5 f args h p := by
  obtain ⟨v, h', h1, h2, h3⟩ := hc
  exact ⟨v, h', h1.ge ge5, h2, h3⟩
theorem RowS.rz {z : Nat} {v : AV} {n : Nat} {cs : List AV} (s : RowS z h v n cs) : Rz z h v n cs := by
  obtain ⟨hlen, ⟨rfl, rfl⟩ | ⟨t, own, st, rfl, hg, ht, hst⟩⟩ := s
  · exact ⟨rfl, fun k i hi => by omega, fun e => absurd rfl e⟩
  · refine ⟨rfl, fun k i hi => ?_, fun _ => ⟨own, st, hg, ht, hst⟩⟩
    rw [iadrK_sl hi, Nat.zero_add]; rfl
theorem r146 {n k : Int} (hn : 0 ≤ n ∧ n ≤ 9223372036854775807) (hk : 1 ≤ k ∧ k ≤ 1000) : CallWp E5 146 [.int .i64 n, .int .i64 k] h K ↔ K (.str (decP n.toNat k.toNat)) h := u5 fun K => c146 hn hk
theorem r152 {s : List UInt8} (hs : s.length ≤ 1000000) : CallWp E5 152 [.str s] h K ↔ K (.tup [.int .i64 (intV s).1, .bool (intV s).2]) h := u5 fun K => c152 hs
theorem r47 {d : List UInt8} {n t z : Int} {p : Bool} : Gv E5 47 [tkt d n p t z] h (.int .i64 (chkE d n p t z)) := by
  refine Gv.of (CallWp.fn (fn := R.a47) rfl rfl rfl ?_)
  unfold R.a47
  by_cases h1 : d = leadW
  · have e : chkE d n p t z = leadE n p t z := by unfold chkE; rw [if_pos h1]
    rw [e]
    subst h1
    cases p
    all_goals repeat' (with_reducible first | simp (disch := first | assumption | omega | (simp only [go_sem, ne_eq, Nat.reduceAdd, Nat.reduceLeDiff] <;> omega) | fail) only [go_sem, ↓reduceIte, Nat.reduceEqDiff, Nat.reduceAdd, Nat.reduceBEq, Nat.reduceLeDiff, Nat.reduceMul, Nat.reduceLT, Int.reduceToNat, reduceCtorEq, Int.reduceAdd, Int.reduceSub, Int.reduceMul, Int.reduceNeg, Int.reduceLT, Int.reduceLE, Int.reduceEq] | ((first | apply k1 | apply k2 | apply k3 | apply k4 | apply k5 | apply k6 | apply k7) <;> intro hc))
    all_goals refine ⟨?_, by (try first | refine ⟨trivial, ?_⟩ | refine ⟨rfl, ?_⟩); (repeat (first | exact Grs.refl _ | assumption | refine Grs.push ?_ | refine Grs.ov ?_ | refine Grs.put ?_ (by (try simp only [Hp.next_push, Hp.next_put, Hp.ov_next, Hp.clk_push, Hp.clk_put, Hp.ov_clk]); omega)))⟩
    all_goals congr 1
    all_goals simp only [leadE]
    all_goals (repeat' split) <;> first | rfl | omega | (simp_all; done) | (simp_all; omega)
  · by_cases h2 : d = boulW
    · have e : chkE d n p t z = boulE n p t z := by unfold chkE; rw [if_neg h1, if_pos h2]
      rw [e]
      subst h2
      cases p
      all_goals repeat' (with_reducible first | simp (disch := first | assumption | omega | (simp only [go_sem, ne_eq, Nat.reduceAdd, Nat.reduceLeDiff] <;> omega) | fail) only [go_sem, ↓reduceIte, Nat.reduceEqDiff, Nat.reduceAdd, Nat.reduceBEq, Nat.reduceLeDiff, Nat.reduceMul, Nat.reduceLT, Int.reduceToNat, reduceCtorEq, Int.reduceAdd, Int.reduceSub, Int.reduceMul, Int.reduceNeg, Int.reduceLT, Int.reduceLE, Int.reduceEq, h1] | ((first | apply k1 | apply k2 | apply k3 | apply k4 | apply k5 | apply k6 | apply k7) <;> intro hc))
      all_goals refine ⟨?_, by (try first | refine ⟨trivial, ?_⟩ | refine ⟨rfl, ?_⟩); (repeat (first | exact Grs.refl _ | assumption | refine Grs.push ?_ | refine Grs.ov ?_ | refine Grs.put ?_ (by (try simp only [Hp.next_push, Hp.next_put, Hp.ov_next, Hp.clk_push, Hp.clk_put, Hp.ov_clk]); omega)))⟩
      all_goals congr 1
      all_goals simp only [boulE]
      all_goals (repeat' split) <;> first | rfl | omega | (simp_all; done) | (simp_all; omega)
    · have e : chkE d n p t z = 13 := by unfold chkE; rw [if_neg h1, if_neg h2]
      rw [e]
      repeat' (with_reducible first | simp (disch := first | assumption | omega | (simp only [go_sem, ne_eq, Nat.reduceAdd, Nat.reduceLeDiff] <;> omega) | fail) only [go_sem, ↓reduceIte, Nat.reduceEqDiff, Nat.reduceAdd, Nat.reduceBEq, Nat.reduceLeDiff, Nat.reduceMul, Nat.reduceLT, Int.reduceToNat, reduceCtorEq, Int.reduceAdd, Int.reduceSub, Int.reduceMul, Int.reduceNeg, Int.reduceLT, Int.reduceLE, Int.reduceEq, h1, h2] | ((first | apply k1 | apply k2 | apply k3 | apply k4 | apply k5 | apply k6 | apply k7) <;> intro hc))
      (try first | refine ⟨trivial, ?_⟩ | refine ⟨rfl, ?_⟩); (repeat (first | exact Grs.refl _ | assumption | refine Grs.push ?_ | refine Grs.ov ?_ | refine Grs.put ?_ (by (try simp only [Hp.next_push, Hp.next_put, Hp.ov_next, Hp.clk_push, Hp.clk_put, Hp.ov_clk]); omega)))
theorem r236 {c : UInt8} {n : Int} (hn : 0 ≤ n ∧ n ≤ 9223372036854775807) : CallWp E5 236 [.str [c], .int .i64 n] h K ↔ K (.str (attS c n)) h := by
  refine CallWp.iff_of (CallWp.fn (fn := T.a236) rfl rfl rfl ?_)
  unfold T.a236
  have l1 := decP_b (n := n.toNat) (k := 1) (by omega) (by omega)
  have e1 : (1 : Int).toNat = 1 := rfl
  by_cases h0 : n = 0
  · repeat' (with_reducible first | simp (disch := first | assumption | omega | (simp only [go_sem, ne_eq, Nat.reduceAdd, Nat.reduceLeDiff] <;> omega) | fail) only [go_sem, ↓reduceIte, Nat.reduceEqDiff, Nat.reduceAdd, Nat.reduceBEq, Nat.reduceLeDiff, Nat.reduceMul, Nat.reduceLT, Int.reduceToNat, reduceCtorEq, Int.reduceAdd, Int.reduceSub, Int.reduceMul, Int.reduceNeg, Int.reduceLT, Int.reduceLE, Int.reduceEq, r146, e1] | ((first | apply k1 | apply k2 | apply k3 | apply k4 | apply k5 | apply k6 | apply k7) <;> intro hc))
    simp [attS, h0]
  · repeat' (with_reducible first | simp (disch := first | assumption | omega | (simp only [go_sem, ne_eq, Nat.reduceAdd, Nat.reduceLeDiff] <;> omega) | fail) only [go_sem, ↓reduceIte, Nat.reduceEqDiff, Nat.reduceAdd, Nat.reduceBEq, Nat.reduceLeDiff, Nat.reduceMul, Nat.reduceLT, Int.reduceToNat, reduceCtorEq, Int.reduceAdd, Int.reduceSub, Int.reduceMul, Int.reduceNeg, Int.reduceLT, Int.reduceLE, Int.reduceEq, r146, e1] | ((first | apply k1 | apply k2 | apply k3 | apply k4 | apply k5 | apply k6 | apply k7) <;> intro hc))
    simp [attS, h0]
theorem r156 {d : List UInt8} {n t z : Int} {p : Bool} (he : chkE d n p t z = 0) : Gv E5 156 [tkt d n p t z] h (.str (txtS d n p t z)) := by
  refine Gv.of (CallWp.fn (fn := T.a156) rfl rfl rfl ?_)
  unfold T.a156
  have e1 : (1 : Int).toNat = 1 := rfl
  have hlb : ¬ leadW = [98, 111, 117, 108, 100, 101, 114] := by decide
  rcases e_zero (k := ⟨d, n, p, t, z⟩) he with ⟨g1, g2, g3⟩ | ⟨g1, g2, g3, g4, g5, g6⟩
  · have e : txtS d n p t z = leadS n p t := by unfold txtS; rw [if_pos g1]
    rw [e]
    simp only at g1 g2 g3
    subst g1
    have l1 := decP_b (n := n.toNat) (k := 1) (by omega) (by omega)
    by_cases h0 : t = 1
    · repeat' (with_reducible first | simp (disch := first | assumption | omega | (simp only [go_sem, ne_eq, Nat.reduceAdd, Nat.reduceLeDiff] <;> omega) | fail) only [go_sem, ↓reduceIte, Nat.reduceEqDiff, Nat.reduceAdd, Nat.reduceBEq, Nat.reduceLeDiff, Nat.reduceMul, Nat.reduceLT, Int.reduceToNat, reduceCtorEq, Int.reduceAdd, Int.reduceSub, Int.reduceMul, Int.reduceNeg, Int.reduceLT, Int.reduceLE, Int.reduceEq, e1, hlb] | ((first | apply k1 | apply k2 | apply k3 | apply k4 | apply k5 | apply k6 | apply k7) <;> intro hc))
      refine ⟨by simp [leadS, h0], ?_⟩
      (try first | refine ⟨trivial, ?_⟩ | refine ⟨rfl, ?_⟩); (repeat (first | exact Grs.refl _ | assumption | refine Grs.push ?_ | refine Grs.ov ?_ | refine Grs.put ?_ (by (try simp only [Hp.next_push, Hp.next_put, Hp.ov_next, Hp.clk_push, Hp.clk_put, Hp.ov_clk]); omega)))
    · cases p
      · repeat' (with_reducible first | simp (disch := first | assumption | omega | (simp only [go_sem, ne_eq, Nat.reduceAdd, Nat.reduceLeDiff] <;> omega) | fail) only [go_sem, ↓reduceIte, Nat.reduceEqDiff, Nat.reduceAdd, Nat.reduceBEq, Nat.reduceLeDiff, Nat.reduceMul, Nat.reduceLT, Int.reduceToNat, reduceCtorEq, Int.reduceAdd, Int.reduceSub, Int.reduceMul, Int.reduceNeg, Int.reduceLT, Int.reduceLE, Int.reduceEq, r146, e1, hlb] | ((first | apply k1 | apply k2 | apply k3 | apply k4 | apply k5 | apply k6 | apply k7) <;> intro hc))
        refine ⟨by simp [leadS, h0], ?_⟩
        (try first | refine ⟨trivial, ?_⟩ | refine ⟨rfl, ?_⟩); (repeat (first | exact Grs.refl _ | assumption | refine Grs.push ?_ | refine Grs.ov ?_ | refine Grs.put ?_ (by (try simp only [Hp.next_push, Hp.next_put, Hp.ov_next, Hp.clk_push, Hp.clk_put, Hp.ov_clk]); omega)))
      · repeat' (with_reducible first | simp (disch := first | assumption | omega | (simp only [go_sem, ne_eq, Nat.reduceAdd, Nat.reduceLeDiff] <;> omega) | fail) only [go_sem, ↓reduceIte, Nat.reduceEqDiff, Nat.reduceAdd, Nat.reduceBEq, Nat.reduceLeDiff, Nat.reduceMul, Nat.reduceLT, Int.reduceToNat, reduceCtorEq, Int.reduceAdd, Int.reduceSub, Int.reduceMul, Int.reduceNeg, Int.reduceLT, Int.reduceLE, Int.reduceEq, r146, e1, hlb] | ((first | apply k1 | apply k2 | apply k3 | apply k4 | apply k5 | apply k6 | apply k7) <;> intro hc))
        refine ⟨by simp [leadS, h0], ?_⟩
        (try first | refine ⟨trivial, ?_⟩ | refine ⟨rfl, ?_⟩); (repeat (first | exact Grs.refl _ | assumption | refine Grs.push ?_ | refine Grs.ov ?_ | refine Grs.put ?_ (by (try simp only [Hp.next_push, Hp.next_put, Hp.ov_next, Hp.clk_push, Hp.clk_put, Hp.ov_clk]); omega)))
  · have e : txtS d n p t z = boulS t z := by unfold txtS; rw [if_neg g1]
    rw [e]
    simp only at g2 g3 g4 g5 g6
    subst g2
    have l1 := att_len (c := 84) (n := t) (by omega)
    have l2 := att_len (c := 90) (n := z) (by omega)
    have a1 := fun {h : Hp} {K : AV → Hp → Prop} => r236 (h := h) (K := K) (c := 84) (n := t) ⟨g3, by omega⟩
    have a2 := fun {h : Hp} {K : AV → Hp → Prop} => r236 (h := h) (K := K) (c := 90) (n := z) ⟨g5, by omega⟩
    repeat' (with_reducible first | simp (disch := first | assumption | omega | (simp only [go_sem, ne_eq, Nat.reduceAdd, Nat.reduceLeDiff] <;> omega) | fail) only [go_sem, ↓reduceIte, Nat.reduceEqDiff, Nat.reduceAdd, Nat.reduceBEq, Nat.reduceLeDiff, Nat.reduceMul, Nat.reduceLT, Int.reduceToNat, reduceCtorEq, Int.reduceAdd, Int.reduceSub, Int.reduceMul, Int.reduceNeg, Int.reduceLT, Int.reduceLE, Int.reduceEq, a1, a2] | ((first | apply k1 | apply k2 | apply k3 | apply k4 | apply k5 | apply k6 | apply k7) <;> intro hc))
    refine ⟨by simp [boulS], ?_⟩
    (try first | refine ⟨trivial, ?_⟩ | refine ⟨rfl, ?_⟩); (repeat (first | exact Grs.refl _ | assumption | refine Grs.push ?_ | refine Grs.ov ?_ | refine Grs.put ?_ (by (try simp only [Hp.next_push, Hp.next_put, Hp.ov_next, Hp.clk_push, Hp.clk_put, Hp.ov_clk]); omega)))
theorem r50 {v : AV} {l : List Tk} (hS : RowS 5 h v l.length (l.flatMap Tk.l)) (hl : l.length ≤ 1000000) : Gp E5 50 [v] h fun v' h' => RowS 5 h' v' l.length (l.flatMap Tk.l) := by
  refine Gp.of (CallWp.fn (fn := R.a50) rfl rfl rfl ?_)
  unfold R.a50
  have hls := hS.1
  repeat' (with_reducible first | simp (disch := first | assumption | omega | (simp only [go_sem, ne_eq, Nat.reduceAdd, Nat.reduceLeDiff] <;> omega) | fail) only [go_sem, ↓reduceIte, Nat.reduceEqDiff, Nat.reduceAdd, Nat.reduceBEq, Nat.reduceLeDiff, Nat.reduceMul, Nat.reduceLT, Int.reduceToNat, reduceCtorEq, Int.reduceAdd, Int.reduceSub, Int.reduceMul, Int.reduceNeg, Int.reduceLT, Int.reduceLE, Int.reduceEq] | ((first | apply k1 | apply k2 | apply k3 | apply k4 | apply k5 | apply k6 | apply k7) <;> intro hc))
  refine Wp.loopI (fun m s => ∃ (i : Nat) (v' : AV), val s.tm (.t 0) = v ∧ val s.tm (.t 4) = .int .i64 i ∧ val s.tm (.t 3) = v' ∧
    Grs h s.hp ∧ OwnZ 5 h s.hp v' i ((l.take i).flatMap Tk.l) ∧ i ≤ l.length ∧ m = l.length - i) (n := l.length) ?_ ?_
  · exact ⟨0, .nils, by simp (disch := first | assumption | omega | (simp only [go_sem, ne_eq, Nat.reduceAdd, Nat.reduceLeDiff] <;> omega) | fail) only [go_sem, ↓reduceIte, Nat.reduceEqDiff, Nat.reduceAdd, Nat.reduceBEq, Nat.reduceLeDiff, Nat.reduceMul, Nat.reduceLT, Int.reduceToNat, reduceCtorEq, Int.reduceAdd, Int.reduceSub, Int.reduceMul, Int.reduceNeg, Int.reduceLT, Int.reduceLE, Int.reduceEq], by (simp (disch := first | assumption | omega | (simp only [go_sem, ne_eq, Nat.reduceAdd, Nat.reduceLeDiff] <;> omega) | fail) only [go_sem, ↓reduceIte, Nat.reduceEqDiff, Nat.reduceAdd, Nat.reduceBEq, Nat.reduceLeDiff, Nat.reduceMul, Nat.reduceLT, Int.reduceToNat, reduceCtorEq, Int.reduceAdd, Int.reduceSub, Int.reduceMul, Int.reduceNeg, Int.reduceLT, Int.reduceLE, Int.reduceEq]) <;> rfl, by simp (disch := first | assumption | omega | (simp only [go_sem, ne_eq, Nat.reduceAdd, Nat.reduceLeDiff] <;> omega) | fail) only [go_sem, ↓reduceIte, Nat.reduceEqDiff, Nat.reduceAdd, Nat.reduceBEq, Nat.reduceLeDiff, Nat.reduceMul, Nat.reduceLT, Int.reduceToNat, reduceCtorEq, Int.reduceAdd, Int.reduceSub, Int.reduceMul, Int.reduceNeg, Int.reduceLT, Int.reduceLE, Int.reduceEq], by (try first | refine ⟨trivial, ?_⟩ | refine ⟨rfl, ?_⟩); (repeat (first | exact Grs.refl _ | assumption | refine Grs.push ?_ | refine Grs.ov ?_ | refine Grs.put ?_ (by (try simp only [Hp.next_push, Hp.next_put, Hp.ov_next, Hp.clk_push, Hp.clk_put, Hp.ov_clk]); omega))), OwnZ.nil, Nat.zero_le _, rfl⟩
  · rintro m ⟨tm, hp⟩ ⟨i, v', h0, h4, h3, hG, hO, hle, rfl⟩
    simp only at h0 h4 h3 hG hO
    have rz := (hS.grs hG).rz
    have ln := rz.len
    by_cases hlt : i < l.length
    · have hlt' : (i : Int) < l.length := by omega
      have ad := rz.adr
      obtain ⟨own, st, hg, ht, hst⟩ := rz.get (by omega)
      have hle1 : i * 5 + 5 ≤ (l.flatMap Tk.l).length := by rw [hls]; omega
      have hel : List.take 5 (List.drop (i * 5) (l.flatMap Tk.l)) = tkL l[i].d l[i].n l[i].p l[i].t l[i].z := flat_at Tk.l_len hlt
      have htk : l.take (i + 1) = l.take i ++ [l[i]] := by rw [List.take_add_one]; simp [hlt]
      generalize l[i] = k at *
      repeat' (with_reducible first | simp (disch := first | assumption | omega | (simp only [go_sem, ne_eq, Nat.reduceAdd, Nat.reduceLeDiff] <;> omega) | fail) only [go_sem, ↓reduceIte, Nat.reduceEqDiff, Nat.reduceAdd, Nat.reduceBEq, Nat.reduceLeDiff, Nat.reduceMul, Nat.reduceLT, Int.reduceToNat, reduceCtorEq, Int.reduceAdd, Int.reduceSub, Int.reduceMul, Int.reduceNeg, Int.reduceLT, Int.reduceLE, Int.reduceEq, h0, h4, h3, ln, ad, hlt', hg, hle1, hel] | ((first | apply k1 | apply k2 | apply k3 | apply k4 | apply k5 | apply k6 | apply k7) <;> intro hc))
      refine OwnZ.wp (h0 := h) (b := 48) (by (first | omega | (simp only [Hp.next_push, Hp.next_put, Hp.ov_next, Hp.clk_push, Hp.clk_put, Hp.ov_clk] <;> omega) | fail)) (hG.trans (by (try first | refine ⟨trivial, ?_⟩ | refine ⟨rfl, ?_⟩); (repeat (first | exact Grs.refl _ | assumption | refine Grs.push ?_ | refine Grs.ov ?_ | refine Grs.put ?_ (by (try simp only [Hp.next_push, Hp.next_put, Hp.ov_next, Hp.clk_push, Hp.clk_put, Hp.ov_clk]); omega))))) (hO.grs (by (try first | refine ⟨trivial, ?_⟩ | refine ⟨rfl, ?_⟩); (repeat (first | exact Grs.refl _ | assumption | refine Grs.push ?_ | refine Grs.ov ?_ | refine Grs.put ?_ (by (try simp only [Hp.next_push, Hp.next_put, Hp.ov_next, Hp.clk_push, Hp.clk_put, Hp.ov_clk]); omega))))) rfl (by omega) (by omega) (by omega) fun v'' h'' hG' hO' => ?_
      simp (disch := first | assumption | omega | (simp only [go_sem, ne_eq, Nat.reduceAdd, Nat.reduceLeDiff] <;> omega) | fail) only [go_sem, ↓reduceIte, Nat.reduceEqDiff, Nat.reduceAdd, Nat.reduceBEq, Nat.reduceLeDiff, Nat.reduceMul, Nat.reduceLT, Int.reduceToNat, reduceCtorEq, Int.reduceAdd, Int.reduceSub, Int.reduceMul, Int.reduceNeg, Int.reduceLT, Int.reduceLE, Int.reduceEq, h0, h4]
      exact ⟨_, by omega, i + 1, v'', rfl, rfl, hG', by rw [htk]; simpa [Tk.l] using hO', hlt, rfl⟩
    · have hlt' : ¬ (i : Int) < l.length := by omega
      obtain rfl : i = l.length := by omega
      repeat' (with_reducible first | simp (disch := first | assumption | omega | (simp only [go_sem, ne_eq, Nat.reduceAdd, Nat.reduceLeDiff] <;> omega) | fail) only [go_sem, ↓reduceIte, Nat.reduceEqDiff, Nat.reduceAdd, Nat.reduceBEq, Nat.reduceLeDiff, Nat.reduceMul, Nat.reduceLT, Int.reduceToNat, reduceCtorEq, Int.reduceAdd, Int.reduceSub, Int.reduceMul, Int.reduceNeg, Int.reduceLT, Int.reduceLE, Int.reduceEq, h0, h4, h3, ln, hlt'] | ((first | apply k1 | apply k2 | apply k3 | apply k4 | apply k5 | apply k6 | apply k7) <;> intro hc))
      rw [List.take_length] at hO
      exact ⟨hO.row, hG⟩
theorem r49 {v : AV} {l : List Tk} (hS : RowS 5 h v l.length (l.flatMap Tk.l)) (hl : l.length ≤ 1000000) : Gv E5 49 [v] h (.int .i64 (allE l)) := by
  refine Gv.of (CallWp.fn (fn := R.a49) rfl rfl rfl ?_)
  unfold R.a49
  have hls := hS.1
  have ln := hS.rz.len
  by_cases h0 : l = []
  · have e : allE l = 12 := by simp [allE, h0]
    have h0' : (l.length : Int) = 0 := by subst h0; rfl
    rw [e]
    repeat' (with_reducible first | simp (disch := first | assumption | omega | (simp only [go_sem, ne_eq, Nat.reduceAdd, Nat.reduceLeDiff] <;> omega) | fail) only [go_sem, ↓reduceIte, Nat.reduceEqDiff, Nat.reduceAdd, Nat.reduceBEq, Nat.reduceLeDiff, Nat.reduceMul, Nat.reduceLT, Int.reduceToNat, reduceCtorEq, Int.reduceAdd, Int.reduceSub, Int.reduceMul, Int.reduceNeg, Int.reduceLT, Int.reduceLE, Int.reduceEq, ln, h0'] | ((first | apply k1 | apply k2 | apply k3 | apply k4 | apply k5 | apply k6 | apply k7) <;> intro hc))
  have hpos : 0 < l.length := List.length_pos_iff.2 h0
  have h0' : ¬ (l.length : Int) = 0 := by omega
  have h00 : (0 : Int) < l.length := by omega
  by_cases h1 : 256 < l.length
  · have h1' : (256 : Int) < l.length := by omega
    have e : allE l = 5 := by simp [allE, h0, h1]
    rw [e]
    repeat' (with_reducible first | simp (disch := first | assumption | omega | (simp only [go_sem, ne_eq, Nat.reduceAdd, Nat.reduceLeDiff] <;> omega) | fail) only [go_sem, ↓reduceIte, Nat.reduceEqDiff, Nat.reduceAdd, Nat.reduceBEq, Nat.reduceLeDiff, Nat.reduceMul, Nat.reduceLT, Int.reduceToNat, reduceCtorEq, Int.reduceAdd, Int.reduceSub, Int.reduceMul, Int.reduceNeg, Int.reduceLT, Int.reduceLE, Int.reduceEq, ln, h0', h1'] | ((first | apply k1 | apply k2 | apply k3 | apply k4 | apply k5 | apply k6 | apply k7) <;> intro hc))
  have h1' : ¬ (256 : Int) < l.length := by omega
  have eA : allE l = goE (headD l) l := by simp [allE, h0, h1]
  have hd0 := head_get h0
  have hlc : 1 ≤ (l.flatMap Tk.l).length := by rw [hls]; omega
  rw [eA]
  repeat' (with_reducible first | simp (disch := first | assumption | omega | (simp only [go_sem, ne_eq, Nat.reduceAdd, Nat.reduceLeDiff] <;> omega) | fail) only [go_sem, ↓reduceIte, Nat.reduceEqDiff, Nat.reduceAdd, Nat.reduceBEq, Nat.reduceLeDiff, Nat.reduceMul, Nat.reduceLT, Int.reduceToNat, reduceCtorEq, Int.reduceAdd, Int.reduceSub, Int.reduceMul, Int.reduceNeg, Int.reduceLT, Int.reduceLE, Int.reduceEq, ln, h0', h1'] | ((first | apply k1 | apply k2 | apply k3 | apply k4 | apply k5 | apply k6 | apply k7) <;> intro hc))
  refine Wp.loopI (fun m s => ∃ (i : Nat), val s.tm (.t 0) = v ∧ val s.tm (.t 3) = .int .i64 i ∧
    Grs h s.hp ∧ i ≤ l.length ∧ goE (headD l) l = goE (headD l) (l.drop i) ∧ m = l.length - i) (n := l.length) ?_ ?_
  · exact ⟨0, by simp (disch := first | assumption | omega | (simp only [go_sem, ne_eq, Nat.reduceAdd, Nat.reduceLeDiff] <;> omega) | fail) only [go_sem, ↓reduceIte, Nat.reduceEqDiff, Nat.reduceAdd, Nat.reduceBEq, Nat.reduceLeDiff, Nat.reduceMul, Nat.reduceLT, Int.reduceToNat, reduceCtorEq, Int.reduceAdd, Int.reduceSub, Int.reduceMul, Int.reduceNeg, Int.reduceLT, Int.reduceLE, Int.reduceEq], by (simp (disch := first | assumption | omega | (simp only [go_sem, ne_eq, Nat.reduceAdd, Nat.reduceLeDiff] <;> omega) | fail) only [go_sem, ↓reduceIte, Nat.reduceEqDiff, Nat.reduceAdd, Nat.reduceBEq, Nat.reduceLeDiff, Nat.reduceMul, Nat.reduceLT, Int.reduceToNat, reduceCtorEq, Int.reduceAdd, Int.reduceSub, Int.reduceMul, Int.reduceNeg, Int.reduceLT, Int.reduceLE, Int.reduceEq]) <;> rfl, by (try first | refine ⟨trivial, ?_⟩ | refine ⟨rfl, ?_⟩); (repeat (first | exact Grs.refl _ | assumption | refine Grs.push ?_ | refine Grs.ov ?_ | refine Grs.put ?_ (by (try simp only [Hp.next_push, Hp.next_put, Hp.ov_next, Hp.clk_push, Hp.clk_put, Hp.ov_clk]); omega))), Nat.zero_le _, rfl, rfl⟩
  · rintro m ⟨tm, hp⟩ ⟨i, h_0, h3, hG, hle, heq, rfl⟩
    simp only at h_0 h3 hG
    have rz := (hS.grs hG).rz
    have ln := rz.len
    obtain ⟨own, st, hg, ht, hst⟩ := rz.get (by omega)
    by_cases hlt : i < l.length
    · have hlt' : (i : Int) < l.length := by omega
      have ad := rz.adr
      have hle1 : i * 5 + 5 ≤ (l.flatMap Tk.l).length := by rw [hls]; omega
      have hle2 : i * 5 + 1 ≤ (l.flatMap Tk.l).length := by omega
      have hel : List.take 5 (List.drop (i * 5) (l.flatMap Tk.l)) = tkL l[i].d l[i].n l[i].p l[i].t l[i].z := flat_at Tk.l_len hlt
      have hed : (l.flatMap Tk.l)[i * 5]? = some (.str l[i].d) := by
        have := flat_get (j := 0) Tk.l_len hlt (by omega); simpa [Tk.l] using this
      have hstep := goE_step (d0 := headD l) hlt
      generalize l[i] = k at *
      have hk : kindE (headD l) k = first2 (chkE k.d k.n k.p k.t k.z) (if ¬ k.d = headD l then 13 else 0) := rfl
      by_cases hz1 : chkE k.d k.n k.p k.t k.z = 0
      · by_cases hd : k.d = headD l
        · have hz : kindE (headD l) k = 0 := by rw [hk, hz1]; simp [first2, hd]
          rw [if_pos hz] at hstep
          have hd' : (k.d = headD l) = True := by simp [hd]
          repeat' (with_reducible first | simp (disch := first | assumption | omega | (simp only [go_sem, ne_eq, Nat.reduceAdd, Nat.reduceLeDiff] <;> omega) | fail) only [go_sem, ↓reduceIte, Nat.reduceEqDiff, Nat.reduceAdd, Nat.reduceBEq, Nat.reduceLeDiff, Nat.reduceMul, Nat.reduceLT, Int.reduceToNat, reduceCtorEq, Int.reduceAdd, Int.reduceSub, Int.reduceMul, Int.reduceNeg, Int.reduceLT, Int.reduceLE, Int.reduceEq, h_0, h3, ln, ad, hlt', h00, hg, hle1, hle2, hel, hed, hlc, hd0, hz1, hd', Nat.zero_mul] | (refine Gv.wp (r47) fun _ _ _ _ => ?_) | ((first | apply k1 | apply k2 | apply k3 | apply k4 | apply k5 | apply k6 | apply k7) <;> intro hc))
          exact ⟨_, by omega, i + 1, rfl, hG.trans (by (try first | refine ⟨trivial, ?_⟩ | refine ⟨rfl, ?_⟩); (repeat (first | exact Grs.refl _ | assumption | refine Grs.push ?_ | refine Grs.ov ?_ | refine Grs.put ?_ (by (try simp only [Hp.next_push, Hp.next_put, Hp.ov_next, Hp.clk_push, Hp.clk_put, Hp.ov_clk]); omega)))), hlt, heq.trans hstep, rfl⟩
        · have hz : kindE (headD l) k = 13 := by rw [hk, hz1]; simp [first2, hd]
          rw [if_neg (by rw [hz]; decide), hz] at hstep
          rw [heq, hstep]
          repeat' (with_reducible first | simp (disch := first | assumption | omega | (simp only [go_sem, ne_eq, Nat.reduceAdd, Nat.reduceLeDiff] <;> omega) | fail) only [go_sem, ↓reduceIte, Nat.reduceEqDiff, Nat.reduceAdd, Nat.reduceBEq, Nat.reduceLeDiff, Nat.reduceMul, Nat.reduceLT, Int.reduceToNat, reduceCtorEq, Int.reduceAdd, Int.reduceSub, Int.reduceMul, Int.reduceNeg, Int.reduceLT, Int.reduceLE, Int.reduceEq, h_0, h3, ln, ad, hlt', h00, hg, hle1, hle2, hel, hed, hlc, hd0, hz1, hd, Nat.zero_mul] | (refine Gv.wp (r47) fun _ _ _ _ => ?_) | ((first | apply k1 | apply k2 | apply k3 | apply k4 | apply k5 | apply k6 | apply k7) <;> intro hc))
          refine hG.trans ?_
          (try first | refine ⟨trivial, ?_⟩ | refine ⟨rfl, ?_⟩); (repeat (first | exact Grs.refl _ | assumption | refine Grs.push ?_ | refine Grs.ov ?_ | refine Grs.put ?_ (by (try simp only [Hp.next_push, Hp.next_put, Hp.ov_next, Hp.clk_push, Hp.clk_put, Hp.ov_clk]); omega)))
      · have hz : kindE (headD l) k = chkE k.d k.n k.p k.t k.z := by rw [hk]; simp [first2, hz1]
        rw [if_neg (by rw [hz]; exact hz1), hz] at hstep
        rw [heq, hstep]
        repeat' (with_reducible first | simp (disch := first | assumption | omega | (simp only [go_sem, ne_eq, Nat.reduceAdd, Nat.reduceLeDiff] <;> omega) | fail) only [go_sem, ↓reduceIte, Nat.reduceEqDiff, Nat.reduceAdd, Nat.reduceBEq, Nat.reduceLeDiff, Nat.reduceMul, Nat.reduceLT, Int.reduceToNat, reduceCtorEq, Int.reduceAdd, Int.reduceSub, Int.reduceMul, Int.reduceNeg, Int.reduceLT, Int.reduceLE, Int.reduceEq, h_0, h3, ln, ad, hlt', h00, hg, hle1, hle2, hel, hed, hlc, hd0, hz1, Nat.zero_mul] | (refine Gv.wp (r47) fun _ _ _ _ => ?_) | ((first | apply k1 | apply k2 | apply k3 | apply k4 | apply k5 | apply k6 | apply k7) <;> intro hc))
        refine hG.trans ?_
        (try first | refine ⟨trivial, ?_⟩ | refine ⟨rfl, ?_⟩); (repeat (first | exact Grs.refl _ | assumption | refine Grs.push ?_ | refine Grs.ov ?_ | refine Grs.put ?_ (by (try simp only [Hp.next_push, Hp.next_put, Hp.ov_next, Hp.clk_push, Hp.clk_put, Hp.ov_clk]); omega)))
    · have hlt' : ¬ (i : Int) < l.length := by omega
      obtain rfl : i = l.length := by omega
      rw [heq, List.drop_length]
      repeat' (with_reducible first | simp (disch := first | assumption | omega | (simp only [go_sem, ne_eq, Nat.reduceAdd, Nat.reduceLeDiff] <;> omega) | fail) only [go_sem, ↓reduceIte, Nat.reduceEqDiff, Nat.reduceAdd, Nat.reduceBEq, Nat.reduceLeDiff, Nat.reduceMul, Nat.reduceLT, Int.reduceToNat, reduceCtorEq, Int.reduceAdd, Int.reduceSub, Int.reduceMul, Int.reduceNeg, Int.reduceLT, Int.reduceLE, Int.reduceEq, h_0, h3, ln, hlt'] | ((first | apply k1 | apply k2 | apply k3 | apply k4 | apply k5 | apply k6 | apply k7) <;> intro hc))
      exact ⟨rfl, hG⟩
end
end Go.Ae


/- Digits to a base: plain lists of numbers. -/
set_option linter.unusedVariables false
set_option linter.unusedSimpArgs false
namespace Go.Ae.Bg
def Dg (B : Nat) (l : List Nat) : Prop := ∀ x ∈ l, x < B
variable {B : Nat} {l m : List Nat} {x i : Nat}
theorem getD_eq {l : List Nat} (hi : i < l.length) : l.getD i 0 = l[i] := by simp [List.getD, hi]
theorem getD_set_ne {l : List Nat} {j : Nat} (h : i ≠ j) : (l.set i x).getD j 0 = l.getD j 0 := by simp [List.getD, List.getElem?_set_ne h]
theorem Dg.nil : Dg B [] := by simp [Dg]
theorem Dg.cons (h : x < B) (hl : Dg B l) : Dg B (x :: l) := by
  intro y hy; rcases List.mem_cons.1 hy with rfl | hy
  · exact h
  · exact hl y hy
theorem Dg.head (h : Dg B (x :: l)) : x < B := h x (by simp)
theorem Dg.tail (h : Dg B (x :: l)) : Dg B l := fun y hy => h y (List.mem_cons_of_mem _ hy)
theorem Dg.append (h : Dg B l) (k : Dg B m) : Dg B (l ++ m) := fun y hy => (List.mem_append.1 hy).elim (h y) (k y)
theorem Dg.left (h : Dg B (l ++ m)) : Dg B l := fun y hy => h y (List.mem_append_left _ hy)
theorem Dg.right (h : Dg B (l ++ m)) : Dg B m := fun y hy => h y (List.mem_append_right _ hy)
theorem Dg.take (h : Dg B l) (n : Nat) : Dg B (l.take n) := fun y hy => h y (List.mem_of_mem_take hy)
theorem Dg.drop (h : Dg B l) (n : Nat) : Dg B (l.drop n) := fun y hy => h y (List.mem_of_mem_drop hy)
theorem Dg.set (h : Dg B l) (n : Nat) (hx : x < B) : Dg B (l.set n x) := by
  intro y hy
  rcases List.mem_or_eq_of_mem_set hy with hy | rfl
  · exact h y hy
  · exact hx
theorem Dg.getD (hB : 0 < B) (h : Dg B l) (i : Nat) : l.getD i 0 < B := by
  rcases Nat.lt_or_ge i l.length with hi | hi
  · rw [getD_eq hi]; exact h _ (List.getElem_mem hi)
  · have : l.getD i 0 = 0 := by simp [List.getD, List.getElem?_eq_none hi]
    omega
end Go.Ae.Bg


/- Sequences of whole numbers in memory. -/
set_option linter.unusedVariables false
set_option linter.unusedSimpArgs false
set_option maxRecDepth 100000
namespace Go.Ae
open Bg
noncomputable section
def wd (kd : IntKind) (n : Nat) : AV := .int kd n
def tokOf : AV → Nat
  | .sl t _ _ _ => t
  | _ => 0
def offOf : AV → Nat
  | .sl _ o _ _ => o
  | _ => 0
/-- A slice with these numbers. -/
def Sq (kd : IntKind) (h : Hp) (v : AV) (l : List Nat) : Prop :=
  (v = .nils ∧ l = []) ∨ ∃ (t o : Nat) (own : Bool) (st : Nat) (L : List Nat), v = .sl t o l.length 1 ∧ h.get t = some (.row (L.map (wd kd)) own st) ∧ o + l.length ≤ L.length ∧ (L.drop o).take l.length = l ∧ t < h.next ∧ st ≤ h.clk
/-- What a walk wants to know of it. -/
structure Rd (kd : IntKind) (h : Hp) (v : AV) (l : List Nat) : Prop where
  len : lenK .slice v = some (.int .i64 l.length)
  adr : ∀ (k : IntKind) (i : Int), 0 ≤ i ∧ i < l.length → iadrK 1 v (.int k i) = some (.ptr (tokOf v) (offOf v + i.toNat))
  tok : l.length ≠ 0 → tokOf v < h.next
  load : ∀ i, i < l.length → ∀ h' K, LoadR false 1 (offOf v + i) (h.get (tokOf v)) h' K ↔ K (.int kd (l.getD i 0 : Nat)) h'
  old : l.length ≠ 0 → ∀ c0, h.clk ≤ c0 → OldR (h.get (tokOf v)) c0 = true
section
variable {kd : IntKind} {h h' : Hp} {v : AV} {l L : List Nat} {i x t o n st : Nat} {own : Bool} {K : AV → Hp → Prop}
theorem Sq.grs (s : Sq kd h v l) (g : Grs h h') : Sq kd h' v l := by
  rcases s with s | ⟨t, o, own, st, L, e, hg, h1, h2, h3, h4⟩
  · exact .inl s
  · exact .inr ⟨t, o, own, st, L, e, (g.get h3).trans hg, h1, h2, Nat.lt_of_lt_of_le h3 g.next, Nat.le_trans h4 g.clk⟩
theorem Sq.nil : Sq kd h .nils [] := .inl ⟨rfl, rfl⟩
theorem Sq.all (hg : h.get t = some (.row (l.map (wd kd)) own st)) (ht : t < h.next) (hs : st ≤ h.clk) : Sq kd h (.sl t 0 l.length 1) l :=
  .inr ⟨t, 0, own, st, l, rfl, hg, by simp, by simp, ht, hs⟩
theorem Sq.take (s : Sq kd h v l) (n : Nat) (hn : n ≤ l.length) : ∀ {v'}, (v' = .nils ∧ v = .nils ∨ v' = .sl (tokOf v) (offOf v) n 1 ∧ v ≠ .nils) → Sq kd h v' (l.take n) := by
  intro v' hv
  rcases s with ⟨rfl, rfl⟩ | ⟨t, o, own, st, L, rfl, hg, h1, h2, h3, h4⟩
  · rcases hv with ⟨rfl, _⟩ | ⟨_, e⟩
    · simpa using Sq.nil
    · exact absurd rfl e
  · rcases hv with ⟨_, e⟩ | ⟨rfl, _⟩
    · cases e
    · refine .inr ⟨t, o, own, st, L, ?_, hg, ?_, ?_, h3, h4⟩
      · simp only [tokOf, offOf, List.length_take, Nat.min_eq_left hn]
      · rw [List.length_take]; omega
      · rw [List.length_take, Nat.min_eq_left hn]
        conv => rhs; rw [← h2]
        rw [List.take_take, Nat.min_eq_left hn]
/-- What lies at a token, of one's own. -/
def AtS (h : Hp) (t : Nat) (cs : List AV) : Prop := ∃ st, h.get t = some (.row cs true st) ∧ st ≤ h.clk ∧ t < h.next
theorem AtS.put {cs : List AV} (ht : t < h.next) : AtS (h.put t fun s => .row cs true s) t cs := ⟨_, Hp.put_same, Nat.le_refl _, ht⟩
theorem AtS.push {cs : List AV} : AtS (h.push fun s => .row cs true s) h.next cs := ⟨_, Hp.push_same, Nat.le_refl _, Nat.lt_succ_self _⟩
theorem AtS.other {cs : List AV} {u : Nat} {f : Nat → AObj} (a : AtS h t cs) (hu : t ≠ u) : AtS (h.put u f) t cs := by
  obtain ⟨st, hg, hs, ht⟩ := a
  exact ⟨st, (Hp.put_other hu).trans hg, Nat.le_succ_of_le hs, ht⟩
theorem AtS.grs {cs : List AV} (a : AtS h t cs) (g : Grs h h') : AtS h' t cs := by
  obtain ⟨st, hg, hs, ht⟩ := a
  exact ⟨st, (g.get ht).trans hg, Nat.le_trans hs g.clk, Nat.lt_of_lt_of_le ht g.next⟩
/-! make([]T, n), w[:n], w[i:j] -/
def MksK (b : Nat) (z l c : AV) (h : Hp) (K : AV → Hp → Prop) : Prop :=
  match l, c with
  | .int .i64 l, .int .i64 c => 0 ≤ l ∧ l ≤ c ∧ c * b ≤ 281474976710656 ∧ c ≤ 281474976710656 ∧ z.one = true ∧ K (.sl h.next 0 l.toNat 1) (h.push fun s => .row (rep l.toNat [z]) true s)
  | _, _ => False
theorem rep_one (z : AV) : ∀ n : Nat, rep n [z] = List.replicate n z
  | 0 => rfl
  | n + 1 => by rw [rep, rep_one z n, List.replicate_succ]; rfl
theorem w_mks1 {E : Env} {s : St} {b : Nat} {z : AV} {x y : Opd} : OpWp E (.mks 1 b [z] x y) s K ↔ MksK b z (val s.tm x) (val s.tm y) s.hp K := by
  rw [w_mks]
  simp only [o_mks, MksK]
  cases val s.tm x <;> try exact Iff.rfl
  rename_i k l
  cases k <;> try exact Iff.rfl
  cases val s.tm y <;> try exact Iff.rfl
  rename_i k' c
  cases k' <;> try exact Iff.rfl
  simp only
  split
  · rename_i hc
    obtain ⟨a1, a2, a3, a4, a5, a6, a7⟩ := hc
    have a7' : z.one = true := by simpa using a7
    simp only [Some2, a1, a2, a3, a4, a7', true_and]
  · rename_i hc
    simp only [Some2, false_iff]
    rintro ⟨a1, a2, a3, a4, a5, _⟩
    exact hc ⟨a1, a2, a3, a4, rfl, by decide, by simpa using a5⟩
theorem MksK.int {b : Nat} {z : AV} {n : Nat} (hz : z.one = true) (hn : n ≤ 281474976710656 ∧ n * b ≤ 281474976710656) : MksK b z (.int .i64 n) (.int .i64 n) h K ↔ K (.sl h.next 0 n 1) (h.push fun s => .row (List.replicate n z) true s) := by
  have : ((n : Int)) * b ≤ 281474976710656 := by have := hn.2; rw [← Int.natCast_mul]; exact Int.ofNat_le.2 this
  have h1 : (0 : Int) ≤ n := by omega
  have h2 : (n : Int) ≤ 281474976710656 := by omega
  simp only [MksK, hz, rep_one, Int.toNat_natCast, this, h1, h2, Int.le_refl, true_and]
theorem Some2.som {v : AV} : Some2 (some (v, h)) K ↔ K v h := Iff.rfl
attribute [go_sem] w_mks1 w_sl Some2.som
end
section
variable {h : Hp} {K : AV → Hp → Prop}
end
end
end Go.Ae


/- The reference's numbers as texts: signs, parts, sizes. -/
set_option linter.unusedVariables false
set_option linter.unusedSimpArgs false
set_option maxRecDepth 100000
namespace Go.Ae
open N Go.Proofs
section
variable {h : Hp} {K : AV → Hp → Prop}
theorem u8_int {b : UInt8} {n : Nat} (hn : n < 256) : (b.toNat : Int) = n ↔ b = UInt8.ofNat n := by
  constructor
  · intro e
    apply UInt8.toNat_inj.1
    rw [UInt8.toNat_ofNat', Nat.mod_eq_of_lt hn]; omega
  · rintro rfl
    rw [UInt8.toNat_ofNat', Nat.mod_eq_of_lt hn]
end
end Go.Ae


/- Tickets: the reference's Print and Parse; equal lists. -/
set_option linter.unusedVariables false
set_option linter.unusedSimpArgs false
set_option maxRecDepth 100000
namespace Go.Ae
open N Go.Proofs
def attR (c : UInt8) (s : List UInt8) : Nat × Bool := if s = [45] then (0, true) else if s.length < 2 ∨ s.getD 0 0 ≠ c then (0, false) else ((intV (s.drop 1)).1, (intV (s.drop 1)).2 && decide (0 < (intV (s.drop 1)).1))
/-- What the reference reads as a ticket without a space in it. -/
def lastP (s : List UInt8) : Bool := decide (0 < s.length ∧ s.getD (s.length - 1) 0 = 43)
def plusR (s : List UInt8) : Tk × Bool := if lastP s = true then (⟨leadW, (intV (s.take (s.length - 1))).1, true, 0, 0⟩, (intV (s.take (s.length - 1))).2) else (⟨leadW, (intV s).1, false, 0, 0⟩, (intV s).2)
def rdR (s : List UInt8) : Tk × Bool :=
  if s = [84, 79, 80] then (⟨leadW, 0, false, 1, 0⟩, true)
  else match splS 32 s with
    | [a, b] => (⟨boulW, 0, false, (attR 84 a).1, (attR 90 b).1⟩, (attR 84 a).2 && (attR 90 b).2)
    | _ => plusR s
section
variable {h : Hp} {K : AV → Hp → Prop}
/-- Split of the reference, once more, with the stamps. -/
theorem r150 {s sep : List UInt8} (hs : s.length ≤ 1000000) (hp : 0 < sep.length ∧ sep.length ≤ 1000) :
    Gp E5 150 [.str s, .str sep] h fun v h' => RowS 1 h' v (splGo sep s 0 0).length ((splGo sep s 0 0).map .str) := by
  refine Gp.of (CallWp.fn (fn := C.a150) rfl rfl rfl ?_)
  unfold C.a150
  repeat' (with_reducible first | simp (disch := first | assumption | omega | (simp only [go_sem, ne_eq, Nat.reduceAdd, Nat.reduceLeDiff] <;> omega) | fail) only [go_sem, ↓reduceIte, Nat.reduceEqDiff, Nat.reduceAdd, Nat.reduceBEq, Nat.reduceLeDiff, Nat.reduceMul, Nat.reduceLT, Int.reduceToNat, reduceCtorEq, Int.reduceAdd, Int.reduceSub, Int.reduceMul, Int.reduceNeg, Int.reduceLT, Int.reduceLE, Int.reduceEq] | ((first | apply k1 | apply k2 | apply k3 | apply k4 | apply k5 | apply k6 | apply k7) <;> intro hc))
  refine Wp.loopI (fun m st => ∃ (i a : Nat) (v : AV) (out : List (List UInt8)), val st.tm (.t 0) = .str s ∧ val st.tm (.t 1) = .str sep ∧ val st.tm (.t 7) = .int .i64 i ∧ val st.tm (.t 6) = .int .i64 a ∧ val st.tm (.t 5) = v ∧
    Grs h st.hp ∧ OwnZ 1 h st.hp v out.length (out.map .str) ∧ a ≤ i ∧ i ≤ s.length ∧ out.length ≤ i ∧ out ++ splGo sep s i a = splGo sep s 0 0 ∧ m = s.length - i) (n := s.length) ?_ ?_
  · exact ⟨0, 0, .nils, [], by simp (disch := first | assumption | omega | (simp only [go_sem, ne_eq, Nat.reduceAdd, Nat.reduceLeDiff] <;> omega) | fail) only [go_sem, ↓reduceIte, Nat.reduceEqDiff, Nat.reduceAdd, Nat.reduceBEq, Nat.reduceLeDiff, Nat.reduceMul, Nat.reduceLT, Int.reduceToNat, reduceCtorEq, Int.reduceAdd, Int.reduceSub, Int.reduceMul, Int.reduceNeg, Int.reduceLT, Int.reduceLE, Int.reduceEq], by simp (disch := first | assumption | omega | (simp only [go_sem, ne_eq, Nat.reduceAdd, Nat.reduceLeDiff] <;> omega) | fail) only [go_sem, ↓reduceIte, Nat.reduceEqDiff, Nat.reduceAdd, Nat.reduceBEq, Nat.reduceLeDiff, Nat.reduceMul, Nat.reduceLT, Int.reduceToNat, reduceCtorEq, Int.reduceAdd, Int.reduceSub, Int.reduceMul, Int.reduceNeg, Int.reduceLT, Int.reduceLE, Int.reduceEq], by (simp (disch := first | assumption | omega | (simp only [go_sem, ne_eq, Nat.reduceAdd, Nat.reduceLeDiff] <;> omega) | fail) only [go_sem, ↓reduceIte, Nat.reduceEqDiff, Nat.reduceAdd, Nat.reduceBEq, Nat.reduceLeDiff, Nat.reduceMul, Nat.reduceLT, Int.reduceToNat, reduceCtorEq, Int.reduceAdd, Int.reduceSub, Int.reduceMul, Int.reduceNeg, Int.reduceLT, Int.reduceLE, Int.reduceEq]) <;> rfl, by (simp (disch := first | assumption | omega | (simp only [go_sem, ne_eq, Nat.reduceAdd, Nat.reduceLeDiff] <;> omega) | fail) only [go_sem, ↓reduceIte, Nat.reduceEqDiff, Nat.reduceAdd, Nat.reduceBEq, Nat.reduceLeDiff, Nat.reduceMul, Nat.reduceLT, Int.reduceToNat, reduceCtorEq, Int.reduceAdd, Int.reduceSub, Int.reduceMul, Int.reduceNeg, Int.reduceLT, Int.reduceLE, Int.reduceEq]) <;> rfl, by (simp (disch := first | assumption | omega | (simp only [go_sem, ne_eq, Nat.reduceAdd, Nat.reduceLeDiff] <;> omega) | fail) only [go_sem, ↓reduceIte, Nat.reduceEqDiff, Nat.reduceAdd, Nat.reduceBEq, Nat.reduceLeDiff, Nat.reduceMul, Nat.reduceLT, Int.reduceToNat, reduceCtorEq, Int.reduceAdd, Int.reduceSub, Int.reduceMul, Int.reduceNeg, Int.reduceLT, Int.reduceLE, Int.reduceEq]) <;> rfl, by (try first | refine ⟨trivial, ?_⟩ | refine ⟨rfl, ?_⟩); (repeat (first | exact Grs.refl _ | assumption | refine Grs.push ?_ | refine Grs.ov ?_ | refine Grs.put ?_ (by (try simp only [Hp.next_push, Hp.next_put, Hp.ov_next, Hp.clk_push, Hp.clk_put, Hp.ov_clk]); omega))), OwnZ.nil, Nat.le_refl _, Nat.zero_le _, Nat.le_refl _, rfl, rfl⟩
  · rintro m ⟨tm, hp'⟩ ⟨i, a, v, out, h0, h1, h7, h6, h5, hG, hO, hai, his, hol, heq, rfl⟩
    simp only at h0 h1 h7 h6 h5 hG hO
    by_cases hlt : i + sep.length ≤ s.length
    · have hlt' : (i : Int) + sep.length ≤ s.length := by omega
      have e1 : ((i : Int) + sep.length).toNat = i + sep.length := by omega
      rw [splGo, dif_pos ⟨hlt, hp.1⟩] at heq
      by_cases hm : (s.take (i + sep.length)).drop i = sep
      · rw [if_pos hm] at heq
        repeat' (with_reducible first | simp (disch := first | assumption | omega | (simp only [go_sem, ne_eq, Nat.reduceAdd, Nat.reduceLeDiff] <;> omega) | fail) only [go_sem, ↓reduceIte, Nat.reduceEqDiff, Nat.reduceAdd, Nat.reduceBEq, Nat.reduceLeDiff, Nat.reduceMul, Nat.reduceLT, Int.reduceToNat, reduceCtorEq, Int.reduceAdd, Int.reduceSub, Int.reduceMul, Int.reduceNeg, Int.reduceLT, Int.reduceLE, Int.reduceEq, h0, h1, h7, h6, h5, hlt', e1, hm] | ((first | apply k1 | apply k2 | apply k3 | apply k4 | apply k5 | apply k6 | apply k7) <;> intro hc))
        refine OwnZ.wp (h0 := h) (b := 16) (by (first | omega | (simp only [Hp.next_push, Hp.next_put, Hp.ov_next, Hp.clk_push, Hp.clk_put, Hp.ov_clk] <;> omega) | fail)) (hG.trans (by (try first | refine ⟨trivial, ?_⟩ | refine ⟨rfl, ?_⟩); (repeat (first | exact Grs.refl _ | assumption | refine Grs.push ?_ | refine Grs.ov ?_ | refine Grs.put ?_ (by (try simp only [Hp.next_push, Hp.next_put, Hp.ov_next, Hp.clk_push, Hp.clk_put, Hp.ov_clk]); omega))))) (hO.grs (by (try first | refine ⟨trivial, ?_⟩ | refine ⟨rfl, ?_⟩); (repeat (first | exact Grs.refl _ | assumption | refine Grs.push ?_ | refine Grs.ov ?_ | refine Grs.put ?_ (by (try simp only [Hp.next_push, Hp.next_put, Hp.ov_next, Hp.clk_push, Hp.clk_put, Hp.ov_clk]); omega))))) rfl (by omega) (by omega) (by omega) fun v'' h'' hG' hO' => ?_
        simp (disch := first | assumption | omega | (simp only [go_sem, ne_eq, Nat.reduceAdd, Nat.reduceLeDiff] <;> omega) | fail) only [go_sem, ↓reduceIte, Nat.reduceEqDiff, Nat.reduceAdd, Nat.reduceBEq, Nat.reduceLeDiff, Nat.reduceMul, Nat.reduceLT, Int.reduceToNat, reduceCtorEq, Int.reduceAdd, Int.reduceSub, Int.reduceMul, Int.reduceNeg, Int.reduceLT, Int.reduceLE, Int.reduceEq, h0, h1, h7, h6, h5]
        exact ⟨s.length - (i + sep.length), by omega, i + sep.length, i + sep.length, v'', out ++ [(s.take i).drop a], congrArg _ (by omega), congrArg _ (by omega), rfl, hG', by simpa using hO', Nat.le_refl _, hlt, by simp; omega, by simpa using heq, rfl⟩
      · rw [if_neg hm] at heq
        repeat' (with_reducible first | simp (disch := first | assumption | omega | (simp only [go_sem, ne_eq, Nat.reduceAdd, Nat.reduceLeDiff] <;> omega) | fail) only [go_sem, ↓reduceIte, Nat.reduceEqDiff, Nat.reduceAdd, Nat.reduceBEq, Nat.reduceLeDiff, Nat.reduceMul, Nat.reduceLT, Int.reduceToNat, reduceCtorEq, Int.reduceAdd, Int.reduceSub, Int.reduceMul, Int.reduceNeg, Int.reduceLT, Int.reduceLE, Int.reduceEq, h0, h1, h7, h6, h5, hlt', e1, hm] | ((first | apply k1 | apply k2 | apply k3 | apply k4 | apply k5 | apply k6 | apply k7) <;> intro hc))
        exact ⟨s.length - (i + 1), by omega, i + 1, a, v, out, congrArg _ (by omega), rfl, rfl, hG, hO, by omega, by omega, by omega, heq, rfl⟩
    · have hlt' : ¬ (i : Int) + sep.length ≤ s.length := by omega
      rw [splGo, dif_neg (fun e => hlt e.1)] at heq
      repeat' (with_reducible first | simp (disch := first | assumption | omega | (simp only [go_sem, ne_eq, Nat.reduceAdd, Nat.reduceLeDiff] <;> omega) | fail) only [go_sem, ↓reduceIte, Nat.reduceEqDiff, Nat.reduceAdd, Nat.reduceBEq, Nat.reduceLeDiff, Nat.reduceMul, Nat.reduceLT, Int.reduceToNat, reduceCtorEq, Int.reduceAdd, Int.reduceSub, Int.reduceMul, Int.reduceNeg, Int.reduceLT, Int.reduceLE, Int.reduceEq, h0, h1, h7, h6, h5, hlt'] | ((first | apply k1 | apply k2 | apply k3 | apply k4 | apply k5 | apply k6 | apply k7) <;> intro hc))
      refine OwnZ.wp (h0 := h) (b := 16) (by (first | omega | (simp only [Hp.next_push, Hp.next_put, Hp.ov_next, Hp.clk_push, Hp.clk_put, Hp.ov_clk] <;> omega) | fail)) (hG.trans (by (try first | refine ⟨trivial, ?_⟩ | refine ⟨rfl, ?_⟩); (repeat (first | exact Grs.refl _ | assumption | refine Grs.push ?_ | refine Grs.ov ?_ | refine Grs.put ?_ (by (try simp only [Hp.next_push, Hp.next_put, Hp.ov_next, Hp.clk_push, Hp.clk_put, Hp.ov_clk]); omega))))) (hO.grs (by (try first | refine ⟨trivial, ?_⟩ | refine ⟨rfl, ?_⟩); (repeat (first | exact Grs.refl _ | assumption | refine Grs.push ?_ | refine Grs.ov ?_ | refine Grs.put ?_ (by (try simp only [Hp.next_push, Hp.next_put, Hp.ov_next, Hp.clk_push, Hp.clk_put, Hp.ov_clk]); omega))))) rfl (by omega) (by omega) (by omega) fun v'' h'' hG' hO' => ?_
      simp (disch := first | assumption | omega | (simp only [go_sem, ne_eq, Nat.reduceAdd, Nat.reduceLeDiff] <;> omega) | fail) only [go_sem, ↓reduceIte, Nat.reduceEqDiff, Nat.reduceAdd, Nat.reduceBEq, Nat.reduceLeDiff, Nat.reduceMul, Nat.reduceLT, Int.reduceToNat, reduceCtorEq, Int.reduceAdd, Int.reduceSub, Int.reduceMul, Int.reduceNeg, Int.reduceLT, Int.reduceLE, Int.reduceEq]
      refine ⟨?_, hG'⟩
      rw [← heq]
      simpa using hO'.row
theorem r240 {c : UInt8} {s : List UInt8} (hs : s.length ≤ 1000000) : CallWp E5 240 [.int .u8 c.toNat, .str s] h K ↔ K (.tup [.int .i64 (attR c s).1, .bool (attR c s).2]) h := by
  refine CallWp.iff_of (CallWp.fn (fn := T.a240) rfl rfl rfl ?_)
  unfold T.a240
  by_cases h0 : s = [45]
  · repeat' (with_reducible first | simp (disch := first | assumption | omega | (simp only [go_sem, ne_eq, Nat.reduceAdd, Nat.reduceLeDiff] <;> omega) | fail) only [go_sem, ↓reduceIte, Nat.reduceEqDiff, Nat.reduceAdd, Nat.reduceBEq, Nat.reduceLeDiff, Nat.reduceMul, Nat.reduceLT, Int.reduceToNat, reduceCtorEq, Int.reduceAdd, Int.reduceSub, Int.reduceMul, Int.reduceNeg, Int.reduceLT, Int.reduceLE, Int.reduceEq, h0] | ((first | apply k1 | apply k2 | apply k3 | apply k4 | apply k5 | apply k6 | apply k7) <;> intro hc))
    simp [attR, h0]
  · by_cases h1 : s.length < 2
    · have h1' : (s.length : Int) < 2 := by omega
      repeat' (with_reducible first | simp (disch := first | assumption | omega | (simp only [go_sem, ne_eq, Nat.reduceAdd, Nat.reduceLeDiff] <;> omega) | fail) only [go_sem, ↓reduceIte, Nat.reduceEqDiff, Nat.reduceAdd, Nat.reduceBEq, Nat.reduceLeDiff, Nat.reduceMul, Nat.reduceLT, Int.reduceToNat, reduceCtorEq, Int.reduceAdd, Int.reduceSub, Int.reduceMul, Int.reduceNeg, Int.reduceLT, Int.reduceLE, Int.reduceEq, h0, h1'] | ((first | apply k1 | apply k2 | apply k3 | apply k4 | apply k5 | apply k6 | apply k7) <;> intro hc))
      simp [attR, h0, h1]
    · have h1' : ¬ (s.length : Int) < 2 := by omega
      have e0 : (0 : Int).toNat = 0 := rfl
      have e1 : (1 : Int).toNat = 1 := rfl
      have f := fun {h : Hp} {K : AV → Hp → Prop} => r152 (h := h) (K := K) (s := s.drop 1) (by simp; omega)
      by_cases h2 : s.getD 0 0 = c
      · have h2' : ((s.getD 0 0).toNat : Int) = c.toNat := by rw [h2]
        have ea : attR c s = ((intV (s.drop 1)).1, (intV (s.drop 1)).2 && decide (0 < (intV (s.drop 1)).1)) := by
          unfold attR; rw [if_neg h0, if_neg (by rintro (h | h); exact h1 h; exact h h2)]
        rw [ea]
        cases h3 : (intV (s.drop 1)).2
        all_goals repeat' (with_reducible first | simp (disch := first | assumption | omega | (simp only [go_sem, ne_eq, Nat.reduceAdd, Nat.reduceLeDiff] <;> omega) | fail) only [go_sem, ↓reduceIte, Nat.reduceEqDiff, Nat.reduceAdd, Nat.reduceBEq, Nat.reduceLeDiff, Nat.reduceMul, Nat.reduceLT, Int.reduceToNat, reduceCtorEq, Int.reduceAdd, Int.reduceSub, Int.reduceMul, Int.reduceNeg, Int.reduceLT, Int.reduceLE, Int.reduceEq, h0, h1', e0, e1, h2', f, h3] | ((first | apply k1 | apply k2 | apply k3 | apply k4 | apply k5 | apply k6 | apply k7) <;> intro hc))
        all_goals generalize intV (s.drop 1) = q at *
        all_goals simp [h3]
      · have h2' : ¬ ((s.getD 0 0).toNat : Int) = c.toNat := fun e => h2 (UInt8.toNat_inj.1 (Int.ofNat.inj e))
        have ea : attR c s = (0, false) := by unfold attR; rw [if_neg h0, if_pos (.inr h2)]
        rw [ea]
        repeat' (with_reducible first | simp (disch := first | assumption | omega | (simp only [go_sem, ne_eq, Nat.reduceAdd, Nat.reduceLeDiff] <;> omega) | fail) only [go_sem, ↓reduceIte, Nat.reduceEqDiff, Nat.reduceAdd, Nat.reduceBEq, Nat.reduceLeDiff, Nat.reduceMul, Nat.reduceLT, Int.reduceToNat, reduceCtorEq, Int.reduceAdd, Int.reduceSub, Int.reduceMul, Int.reduceNeg, Int.reduceLT, Int.reduceLE, Int.reduceEq, h0, h1', e0, e1, h2', f] | ((first | apply k1 | apply k2 | apply k3 | apply k4 | apply k5 | apply k6 | apply k7) <;> intro hc))
theorem r160 {s : List UInt8} (hs : s.length ≤ 100000) : Gv E5 160 [.str s] h (.tup [tkt (rdR s).1.d (rdR s).1.n (rdR s).1.p (rdR s).1.t (rdR s).1.z, .bool (rdR s).2]) := by
  refine Gv.of (CallWp.fn (fn := T.a160) rfl rfl rfl ?_)
  by_cases h0 : s = [84, 79, 80]
  · have e : rdR s = (⟨leadW, 0, false, 1, 0⟩, true) := if_pos h0
    have h0' : (s = [84, 79, 80]) = True := by simp [h0]
    rw [e]
    unfold T.a160
    repeat' (with_reducible first | simp (disch := first | assumption | omega | (simp only [go_sem, ne_eq, Nat.reduceAdd, Nat.reduceLeDiff] <;> omega) | fail) only [go_sem, ↓reduceIte, Nat.reduceEqDiff, Nat.reduceAdd, Nat.reduceBEq, Nat.reduceLeDiff, Nat.reduceMul, Nat.reduceLT, Int.reduceToNat, reduceCtorEq, Int.reduceAdd, Int.reduceSub, Int.reduceMul, Int.reduceNeg, Int.reduceLT, Int.reduceLE, Int.reduceEq, h0'] | ((first | apply k1 | apply k2 | apply k3 | apply k4 | apply k5 | apply k6 | apply k7) <;> intro hc))
    (try first | refine ⟨trivial, ?_⟩ | refine ⟨rfl, ?_⟩); (repeat (first | exact Grs.refl _ | assumption | refine Grs.push ?_ | refine Grs.ov ?_ | refine Grs.put ?_ (by (try simp only [Hp.next_push, Hp.next_put, Hp.ov_next, Hp.clk_push, Hp.clk_put, Hp.ov_clk]); omega)))
  · have e : rdR s = match splS 32 s with
      | [a, b] => (⟨boulW, 0, false, (attR 84 a).1, (attR 90 b).1⟩, (attR 84 a).2 && (attR 90 b).2)
      | _ => plusR s := if_neg h0
    have hpl : ∀ p ∈ splS 32 s, p.length ≤ s.length := fun p hp => spl_parts hp
    have hpt : ∀ (hW : Hp) (P : Hp → Prop) (tm : T AV) (K : AV → Hp → Prop), Grs h hW → AtS hW h.next [.str [], .int .i64 0, .bool false, .int .i64 0, .int .i64 0] → val tm (.t 0) = .str s → val tm (.t 2) = .ptr h.next 0 → rdR s = plusR s →
        Wp E5 (T.a160.code.post 4) ⟨tm, hW⟩ (RetQ [.cell 2 true 5, .tmp 3] fun v h' => v = (.tup [tkt (rdR s).1.d (rdR s).1.n (rdR s).1.p (rdR s).1.t (rdR s).1.z, .bool (rdR s).2]) ∧ Grs h h') := by
      intro hW P tm K hG ⟨st, hg, hst, hn⟩ t0 t2 er
      unfold T.a160
      dsimp only [ACode.post]
      rw [er]
      have e1 : ∀ n : Nat, ((n : Int) - 1).toNat = n - 1 := fun n => by omega
      have f1 := fun {h : Hp} {K : AV → Hp → Prop} => r152 (h := h) (K := K) (s := s) (by omega)
      have f2 := fun {h : Hp} {K : AV → Hp → Prop} => r152 (h := h) (K := K) (s := s.take (s.length - 1)) (by simp; omega)
      have e43 : ((s.getD (s.length - 1) 0).toNat : Int) = 43 ↔ s.getD (s.length - 1) 0 = 43 := u8_int (n := 43) (by omega)
      by_cases hl : 0 < s.length
      · have hl' : (0 : Int) < s.length := by omega
        by_cases h43 : s.getD (s.length - 1) 0 = 43
        · have h43' := e43.2 h43
          have el : lastP s = true := by unfold lastP; exact decide_eq_true ⟨hl, h43⟩
          have ep : plusR s = (⟨leadW, (intV (s.take (s.length - 1))).1, true, 0, 0⟩, (intV (s.take (s.length - 1))).2) := if_pos el
          rw [ep]
          repeat' (with_reducible first | simp (disch := first | assumption | omega | (simp only [go_sem, ne_eq, Nat.reduceAdd, Nat.reduceLeDiff] <;> omega) | fail) only [go_sem, ↓reduceIte, Nat.reduceEqDiff, Nat.reduceAdd, Nat.reduceBEq, Nat.reduceLeDiff, Nat.reduceMul, Nat.reduceLT, Int.reduceToNat, reduceCtorEq, Int.reduceAdd, Int.reduceSub, Int.reduceMul, Int.reduceNeg, Int.reduceLT, Int.reduceLE, Int.reduceEq, t0, t2, hl', e1, h43', f2, hg] | ((first | apply k1 | apply k2 | apply k3 | apply k4 | apply k5 | apply k6 | apply k7) <;> intro hc))
          (try first | refine ⟨trivial, ?_⟩ | refine ⟨rfl, ?_⟩); (repeat (first | exact Grs.refl _ | assumption | refine Grs.push ?_ | refine Grs.ov ?_ | refine Grs.put ?_ (by (try simp only [Hp.next_push, Hp.next_put, Hp.ov_next, Hp.clk_push, Hp.clk_put, Hp.ov_clk]); omega)))
        · have h43' : ¬ ((s.getD (s.length - 1) 0).toNat : Int) = 43 := fun e => h43 (e43.1 e)
          have el : ¬ lastP s = true := by unfold lastP; simp only [decide_eq_true_eq]; exact fun e => h43 e.2
          have ep : plusR s = (⟨leadW, (intV s).1, false, 0, 0⟩, (intV s).2) := if_neg el
          rw [ep]
          repeat' (with_reducible first | simp (disch := first | assumption | omega | (simp only [go_sem, ne_eq, Nat.reduceAdd, Nat.reduceLeDiff] <;> omega) | fail) only [go_sem, ↓reduceIte, Nat.reduceEqDiff, Nat.reduceAdd, Nat.reduceBEq, Nat.reduceLeDiff, Nat.reduceMul, Nat.reduceLT, Int.reduceToNat, reduceCtorEq, Int.reduceAdd, Int.reduceSub, Int.reduceMul, Int.reduceNeg, Int.reduceLT, Int.reduceLE, Int.reduceEq, t0, t2, hl', e1, h43', f1, hg] | ((first | apply k1 | apply k2 | apply k3 | apply k4 | apply k5 | apply k6 | apply k7) <;> intro hc))
          (try first | refine ⟨trivial, ?_⟩ | refine ⟨rfl, ?_⟩); (repeat (first | exact Grs.refl _ | assumption | refine Grs.push ?_ | refine Grs.ov ?_ | refine Grs.put ?_ (by (try simp only [Hp.next_push, Hp.next_put, Hp.ov_next, Hp.clk_push, Hp.clk_put, Hp.ov_clk]); omega)))
      · have hl' : ¬ (0 : Int) < s.length := by omega
        have el : ¬ lastP s = true := by unfold lastP; simp only [decide_eq_true_eq]; exact fun e => hl e.1
        have ep : plusR s = (⟨leadW, (intV s).1, false, 0, 0⟩, (intV s).2) := if_neg el
        rw [ep]
        repeat' (with_reducible first | simp (disch := first | assumption | omega | (simp only [go_sem, ne_eq, Nat.reduceAdd, Nat.reduceLeDiff] <;> omega) | fail) only [go_sem, ↓reduceIte, Nat.reduceEqDiff, Nat.reduceAdd, Nat.reduceBEq, Nat.reduceLeDiff, Nat.reduceMul, Nat.reduceLT, Int.reduceToNat, reduceCtorEq, Int.reduceAdd, Int.reduceSub, Int.reduceMul, Int.reduceNeg, Int.reduceLT, Int.reduceLE, Int.reduceEq, t0, t2, hl', f1, hg] | ((first | apply k1 | apply k2 | apply k3 | apply k4 | apply k5 | apply k6 | apply k7) <;> intro hc))
        (try first | refine ⟨trivial, ?_⟩ | refine ⟨rfl, ?_⟩); (repeat (first | exact Grs.refl _ | assumption | refine Grs.push ?_ | refine Grs.ov ?_ | refine Grs.put ?_ (by (try simp only [Hp.next_push, Hp.next_put, Hp.ov_next, Hp.clk_push, Hp.clk_put, Hp.ov_clk]); omega)))
    refine Wp.cut 4 rfl ?_
    generalize T.a160.code.post 4 = r at hpt ⊢
    unfold T.a160
    dsimp only [ACode.pre]
    repeat' (with_reducible first | simp (disch := first | assumption | omega | (simp only [go_sem, ne_eq, Nat.reduceAdd, Nat.reduceLeDiff] <;> omega) | fail) only [go_sem, ↓reduceIte, Nat.reduceEqDiff, Nat.reduceAdd, Nat.reduceBEq, Nat.reduceLeDiff, Nat.reduceMul, Nat.reduceLT, Int.reduceToNat, reduceCtorEq, Int.reduceAdd, Int.reduceSub, Int.reduceMul, Int.reduceNeg, Int.reduceLT, Int.reduceLE, Int.reduceEq, h0] | ((first | apply k1 | apply k2 | apply k3 | apply k4 | apply k5 | apply k6 | apply k7) <;> intro hc))
    refine Gp.wp (r150 (by omega) (by simp)) fun v h' k j g hv => ?_
    have hA := AtS.grs (AtS.push (h := h) (cs := [.str [], .int .i64 0, .bool false, .int .i64 0, .int .i64 0])) ⟨k, j, g⟩
    have hG : Grs h ((h.push fun st => .row [.str [], .int .i64 0, .bool false, .int .i64 0, .int .i64 0] true st).ov h' g) := (Grs.refl h).push.ov
    have hnx := hG.next
    obtain ⟨hlen, ⟨rfl, hn⟩ | ⟨t, own, st, rfl, hg, ht, hst⟩⟩ := hv
    · exact absurd (List.length_eq_zero_iff.1 hn) splGo_ne
    simp only [Hp.next_push, Hp.next_put, Hp.ov_next, Hp.clk_push, Hp.clk_put, Hp.ov_clk] at ht
    rcases hL : splGo [32] s 0 0 with _ | ⟨a, _ | ⟨b, _ | ⟨c, L⟩⟩⟩
    · exact absurd hL splGo_ne
    · rw [hL] at hg
      repeat' (with_reducible first | simp (disch := first | assumption | omega | (simp only [go_sem, ne_eq, Nat.reduceAdd, Nat.reduceLeDiff] <;> omega) | fail) only [go_sem, ↓reduceIte, Nat.reduceEqDiff, Nat.reduceAdd, Nat.reduceBEq, Nat.reduceLeDiff, Nat.reduceMul, Nat.reduceLT, Int.reduceToNat, reduceCtorEq, Int.reduceAdd, Int.reduceSub, Int.reduceMul, Int.reduceNeg, Int.reduceLT, Int.reduceLE, Int.reduceEq] | ((first | apply k1 | apply k2 | apply k3 | apply k4 | apply k5 | apply k6 | apply k7) <;> intro hc))
      refine hpt _ (fun _ => True) _ (fun _ _ => True) hG hA (by simp (disch := first | assumption | omega | (simp only [go_sem, ne_eq, Nat.reduceAdd, Nat.reduceLeDiff] <;> omega) | fail) only [go_sem, ↓reduceIte, Nat.reduceEqDiff, Nat.reduceAdd, Nat.reduceBEq, Nat.reduceLeDiff, Nat.reduceMul, Nat.reduceLT, Int.reduceToNat, reduceCtorEq, Int.reduceAdd, Int.reduceSub, Int.reduceMul, Int.reduceNeg, Int.reduceLT, Int.reduceLE, Int.reduceEq]) (by simp (disch := first | assumption | omega | (simp only [go_sem, ne_eq, Nat.reduceAdd, Nat.reduceLeDiff] <;> omega) | fail) only [go_sem, ↓reduceIte, Nat.reduceEqDiff, Nat.reduceAdd, Nat.reduceBEq, Nat.reduceLeDiff, Nat.reduceMul, Nat.reduceLT, Int.reduceToNat, reduceCtorEq, Int.reduceAdd, Int.reduceSub, Int.reduceMul, Int.reduceNeg, Int.reduceLT, Int.reduceLE, Int.reduceEq]) (by rw [e]; unfold splS; rw [hL])
    · rw [hL] at hg
      have er : rdR s = (⟨boulW, 0, false, (attR 84 a).1, (attR 90 b).1⟩, (attR 84 a).2 && (attR 90 b).2) := by rw [e]; unfold splS; rw [hL]
      have la := hpl a (by unfold splS; rw [hL]; simp)
      have lb := hpl b (by unfold splS; rw [hL]; simp)
      have q1 : ∀ {h : Hp} {K : AV → Hp → Prop}, CallWp E5 240 [.int .u8 84, .str a] h K ↔ K (.tup [.int .i64 (attR 84 a).1, .bool (attR 84 a).2]) h := r240 (c := 84) (by omega)
      have q2 : ∀ {h : Hp} {K : AV → Hp → Prop}, CallWp E5 240 [.int .u8 90, .str b] h K ↔ K (.tup [.int .i64 (attR 90 b).1, .bool (attR 90 b).2]) h := r240 (c := 90) (by omega)
      obtain ⟨st2, hg2, hs2, hn2⟩ := hA
      simp only [List.map_cons, List.map_nil] at hg
      have i1 : (1 : Int).toNat = 1 := rfl
      rw [er]
      cases hb : (attR 84 a).2
      · repeat' (with_reducible first | simp (disch := first | assumption | omega | (simp only [go_sem, ne_eq, Nat.reduceAdd, Nat.reduceLeDiff] <;> omega) | fail) only [go_sem, ↓reduceIte, Nat.reduceEqDiff, Nat.reduceAdd, Nat.reduceBEq, Nat.reduceLeDiff, Nat.reduceMul, Nat.reduceLT, Int.reduceToNat, reduceCtorEq, Int.reduceAdd, Int.reduceSub, Int.reduceMul, Int.reduceNeg, Int.reduceLT, Int.reduceLE, Int.reduceEq, q1, q2, hg, hg2, hb, i1] | ((first | apply k1 | apply k2 | apply k3 | apply k4 | apply k5 | apply k6 | apply k7) <;> intro hc))
        (try first | refine ⟨trivial, ?_⟩ | refine ⟨rfl, ?_⟩); (repeat (first | exact Grs.refl _ | assumption | refine Grs.push ?_ | refine Grs.ov ?_ | refine Grs.put ?_ (by (try simp only [Hp.next_push, Hp.next_put, Hp.ov_next, Hp.clk_push, Hp.clk_put, Hp.ov_clk]); omega)))
      · repeat' (with_reducible first | simp (disch := first | assumption | omega | (simp only [go_sem, ne_eq, Nat.reduceAdd, Nat.reduceLeDiff] <;> omega) | fail) only [go_sem, ↓reduceIte, Nat.reduceEqDiff, Nat.reduceAdd, Nat.reduceBEq, Nat.reduceLeDiff, Nat.reduceMul, Nat.reduceLT, Int.reduceToNat, reduceCtorEq, Int.reduceAdd, Int.reduceSub, Int.reduceMul, Int.reduceNeg, Int.reduceLT, Int.reduceLE, Int.reduceEq, q1, q2, hg, hg2, hb, i1] | ((first | apply k1 | apply k2 | apply k3 | apply k4 | apply k5 | apply k6 | apply k7) <;> intro hc))
        (try first | refine ⟨trivial, ?_⟩ | refine ⟨rfl, ?_⟩); (repeat (first | exact Grs.refl _ | assumption | refine Grs.push ?_ | refine Grs.ov ?_ | refine Grs.put ?_ (by (try simp only [Hp.next_push, Hp.next_put, Hp.ov_next, Hp.clk_push, Hp.clk_put, Hp.ov_clk]); omega)))
    · rw [hL] at hg
      have n2 : ¬ (((L.length + 1 + 1 + 1 : Nat)) : Int) = 2 := by omega
      have n2' : ¬ (L.length : Int) + 1 + 1 + 1 = 2 := by omega
      repeat' (with_reducible first | simp (disch := first | assumption | omega | (simp only [go_sem, ne_eq, Nat.reduceAdd, Nat.reduceLeDiff] <;> omega) | fail) only [go_sem, ↓reduceIte, Nat.reduceEqDiff, Nat.reduceAdd, Nat.reduceBEq, Nat.reduceLeDiff, Nat.reduceMul, Nat.reduceLT, Int.reduceToNat, reduceCtorEq, Int.reduceAdd, Int.reduceSub, Int.reduceMul, Int.reduceNeg, Int.reduceLT, Int.reduceLE, Int.reduceEq, n2, n2'] | ((first | apply k1 | apply k2 | apply k3 | apply k4 | apply k5 | apply k6 | apply k7) <;> intro hc))
      refine hpt _ (fun _ => True) _ (fun _ _ => True) hG hA (by simp (disch := first | assumption | omega | (simp only [go_sem, ne_eq, Nat.reduceAdd, Nat.reduceLeDiff] <;> omega) | fail) only [go_sem, ↓reduceIte, Nat.reduceEqDiff, Nat.reduceAdd, Nat.reduceBEq, Nat.reduceLeDiff, Nat.reduceMul, Nat.reduceLT, Int.reduceToNat, reduceCtorEq, Int.reduceAdd, Int.reduceSub, Int.reduceMul, Int.reduceNeg, Int.reduceLT, Int.reduceLE, Int.reduceEq]) (by simp (disch := first | assumption | omega | (simp only [go_sem, ne_eq, Nat.reduceAdd, Nat.reduceLeDiff] <;> omega) | fail) only [go_sem, ↓reduceIte, Nat.reduceEqDiff, Nat.reduceAdd, Nat.reduceBEq, Nat.reduceLeDiff, Nat.reduceMul, Nat.reduceLT, Int.reduceToNat, reduceCtorEq, Int.reduceAdd, Int.reduceSub, Int.reduceMul, Int.reduceNeg, Int.reduceLT, Int.reduceLE, Int.reduceEq]) (by rw [e]; unfold splS; rw [hL])
end
end Go.Ae


/- Tickets: the reference's Print and Parse, and the law. -/
set_option linter.unusedVariables false
set_option linter.unusedSimpArgs false
set_option maxRecDepth 100000
namespace Go.Ae
open N Go.Proofs
/-! Both readers read the same. -/
theorem intV_no {l : List UInt8} {c : UInt8} (hc : c ∈ l) (hd : isDig c = false) : (intV l).2 = false := by
  have ha : allDig l = false := by unfold allDig; rw [List.all_eq_false]; exact ⟨c, hc, by simp [hd]⟩
  unfold intV isDec; rw [ha]; simp
theorem att_try (c : UInt8) (s : List UInt8) : (attR c s).2 = (tryV c s).2 ∧ ((tryV c s).2 = true → (attR c s).1 = (tryV c s).1) := by
  unfold attR tryV
  by_cases h0 : s = [45]
  · rw [if_pos h0, if_pos h0]; exact ⟨rfl, fun _ => rfl⟩
  · rw [if_neg h0, if_neg h0]
    cases s with
    | nil => simp [Lib.hasPrefix, List.isPrefixOf]
    | cons x t =>
      by_cases hx : x = c
      · subst hx
        have e1 : Lib.hasPrefix (x :: t) [x] = true := by simp [Lib.hasPrefix, List.isPrefixOf]
        have e2 : Lib.trimPrefix (x :: t) [x] = t := by unfold Lib.trimPrefix; rw [if_pos e1]; rfl
        rw [e1, e2]
        cases t with
        | nil =>
          have : (intV []).2 = false := by simp [intV, isDec]
          simp [this]
        | cons y r =>
          rw [if_neg (by simp)]
          exact ⟨by simp, fun _ => rfl⟩
      · have e1 : Lib.hasPrefix (x :: t) [c] = false := by simp [Lib.hasPrefix, List.isPrefixOf]; exact fun e => hx e.symm
        rw [e1, if_pos (.inr (by simpa using hx))]
        simp
theorem suffix_last (s : List UInt8) : Lib.hasSuffix s [43] = lastP s := by
  unfold Lib.hasSuffix lastP
  rcases List.eq_nil_or_concat s with rfl | ⟨m, x, rfl⟩
  · rfl
  · rw [List.concat_eq_append]
    simp only [List.length_append, List.length_cons, List.length_nil, Nat.add_sub_cancel, List.getD_eq_getElem?_getD]
    by_cases hx : x = 43
    · subst hx; simp [List.isSuffixOf]
    · have hx' : ¬ (43 : UInt8) = x := fun e => hx e.symm
      simp [List.isSuffixOf, List.isPrefixOf, hx, hx']
theorem rd_eq (s : List UInt8) : (rdR s).2 = (rdV s).2 ∧ ((rdV s).2 = true → (rdR s).1 = (rdV s).1) := by
  unfold rdR rdV
  by_cases h0 : s = [84, 79, 80]
  · rw [if_pos h0, if_pos h0]; exact ⟨rfl, fun _ => rfl⟩
  rw [if_neg h0, if_neg h0]
  by_cases hc : (32 : UInt8) ∈ s
  · obtain ⟨a, b, rfl, ha⟩ := List.eq_append_cons_of_mem hc
    rw [splS_some ha, cut_someC ha]
    simp only [if_true]
    obtain ⟨a1, a2⟩ := att_try 84 a
    obtain ⟨b1, b2⟩ := att_try 90 b
    by_cases hb : (32 : UInt8) ∈ b
    · obtain ⟨p, q, rfl, hp⟩ := List.eq_append_cons_of_mem hb
      have t1 : (tryV 90 (p ++ 32 :: q)).2 = false := by
        unfold tryV
        rw [if_neg (by intro e; have := congrArg (fun l => (32 : UInt8) ∈ l) e; simp at this)]
        have : (32 : UInt8) ∈ Lib.trimPrefix (p ++ 32 :: q) [90] := by
          unfold Lib.trimPrefix
          split
          · rename_i h
            cases p with
            | nil => simp [Lib.hasPrefix, List.isPrefixOf] at h
            | cons y r => simp
          · simp
        rw [intV_no this (by decide)]; simp
      rw [splS_some hp]
      have hne := splGo_ne (sep := [32]) (s := q) (i := 0) (a := 0)
      cases hq : splS 32 q with
      | nil => exact absurd hq hne
      | cons x L =>
        simp only
        have t2 : (plusR (a ++ 32 :: (p ++ 32 :: q))).2 = false := by
          unfold plusR
          split
          · have : (32 : UInt8) ∈ (a ++ 32 :: (p ++ 32 :: q)).take ((a ++ 32 :: (p ++ 32 :: q)).length - 1) := by
              have : (a ++ 32 :: (p ++ 32 :: q)).take ((a ++ 32 :: (p ++ 32 :: q)).length - 1) = (a ++ [32]) ++ (p ++ 32 :: q).take ((p ++ 32 :: q).length - 1) := by
                rw [show a ++ 32 :: (p ++ 32 :: q) = (a ++ [32]) ++ (p ++ 32 :: q) by simp, List.take_append]
                congr 1
                · rw [List.take_of_length_le]; simp; omega
                · congr 1; simp; omega
              rw [this]; simp
            exact intV_no this (by decide)
          · exact intV_no (c := 32) (by simp) (by decide)
        rw [t2, t1]
        simp
    · rw [splS_none hb]
      simp only
      refine ⟨by rw [a1, b1], fun h => ?_⟩
      simp only [Bool.and_eq_true] at h
      rw [a2 h.1, b2 h.2]
  · rw [splS_none hc, cut_noneC hc]
    simp only [Bool.false_eq_true, if_false]
    unfold plusR
    rw [← suffix_last]
    have : Lib.trimSuffix s [43] = if Lib.hasSuffix s [43] then s.take (s.length - 1) else s := rfl
    rw [this]
    cases Lib.hasSuffix s [43] <;> exact ⟨rfl, fun _ => rfl⟩
theorem rd_pair {s : List UInt8} (h : (rdV s).2 = true) : rdR s = rdV s := Prod.ext ((rd_eq s).2 h) (rd_eq s).1
theorem goE_zero {d0 : List UInt8} : ∀ {l : List Tk}, goE d0 l = 0 → ∀ k ∈ l, k.e = 0
  | [], _, k, hk => by cases hk
  | x :: l, h, k, hk => by
    rw [goE] at h
    by_cases hz : kindE d0 x = 0
    · rw [if_pos hz] at h
      rcases List.mem_cons.1 hk with rfl | hk
      · exact (kind_zero hz).1
      · exact goE_zero h k hk
    · rw [if_neg hz] at h; exact absurd h hz
theorem allE_zero {l : List Tk} (h : allE l = 0) : l ≠ [] ∧ l.length ≤ 256 ∧ ∀ k ∈ l, k.e = 0 := by
  unfold allE at h
  by_cases h0 : l = []
  · rw [if_pos h0] at h; cases h
  rw [if_neg h0] at h
  by_cases h1 : 256 < l.length
  · rw [if_pos h1] at h; cases h
  rw [if_neg h1] at h
  exact ⟨h0, by omega, goE_zero h⟩
theorem join_snoc {W : List (List UInt8)} {x sep : List UInt8} (h : W ≠ []) : Lib.join (W ++ [x]) sep = Lib.join W sep ++ (sep ++ x) := by
  cases W with
  | nil => exact absurd rfl h
  | cons y r => rw [List.cons_append, Lib.join_cons, Lib.join_cons]; simp [Lib.joinTail]
section
variable {h : Hp} {K : AV → Hp → Prop}
theorem r51 {v : AV} {l : List Tk} (hS : RowS 5 h v l.length (l.flatMap Tk.l)) (hA : allE l = 0) : Gv E5 51 [v] h (.str (joinT l)) := by
  refine Gv.of (CallWp.fn (fn := T.a51) rfl rfl rfl ?_)
  unfold T.a51
  obtain ⟨hne, hl, hz⟩ := allE_zero hA
  have hls := hS.1
  have hpos : 0 < l.length := List.length_pos_iff.2 hne
  have h00 : (0 : Int) < l.length := by omega
  have rz := hS.rz
  have ad := rz.adr
  obtain ⟨own, st, hg, ht, hst⟩ := rz.get (by omega)
  have hel : List.take 5 (l.flatMap Tk.l) = tkL l[0].d l[0].n l[0].p l[0].t l[0].z := by have := flat_at Tk.l_len (show 0 < l.length from hpos); simpa [Tk.l] using this
  have hle1 : 5 ≤ (l.flatMap Tk.l).length := by rw [hls]; omega
  have hz0 : chkE l[0].d l[0].n l[0].p l[0].t l[0].z = 0 := hz _ (List.getElem_mem hpos)
  have j1 : joinT (l.take 1) = txtS l[0].d l[0].n l[0].p l[0].t l[0].z := by
    cases l with
    | nil => exact absurd rfl hne
    | cons k r => simp [joinT, Lib.join_one, Tk.s]
  generalize hk0 : l[0] = k0 at *
  repeat' (with_reducible first | simp (disch := first | assumption | omega | (simp only [go_sem, ne_eq, Nat.reduceAdd, Nat.reduceLeDiff] <;> omega) | fail) only [go_sem, ↓reduceIte, Nat.reduceEqDiff, Nat.reduceAdd, Nat.reduceBEq, Nat.reduceLeDiff, Nat.reduceMul, Nat.reduceLT, Int.reduceToNat, reduceCtorEq, Int.reduceAdd, Int.reduceSub, Int.reduceMul, Int.reduceNeg, Int.reduceLT, Int.reduceLE, Int.reduceEq, ad, h00, hg, hel, hle1, Nat.zero_mul] | (refine Gv.wp (r156 hz0) fun _ _ _ _ => ?_) | ((first | apply k1 | apply k2 | apply k3 | apply k4 | apply k5 | apply k6 | apply k7) <;> intro hc))
  refine Wp.loopI (fun m s => ∃ (i : Nat), val s.tm (.t 0) = v ∧ val s.tm (.t 4) = .int .i64 i ∧ val s.tm (.t 3) = .str (joinT (l.take i)) ∧
    Grs h s.hp ∧ 1 ≤ i ∧ i ≤ l.length ∧ m = l.length - i) (n := l.length - 1) ?_ ?_
  · exact ⟨1, by simp (disch := first | assumption | omega | (simp only [go_sem, ne_eq, Nat.reduceAdd, Nat.reduceLeDiff] <;> omega) | fail) only [go_sem, ↓reduceIte, Nat.reduceEqDiff, Nat.reduceAdd, Nat.reduceBEq, Nat.reduceLeDiff, Nat.reduceMul, Nat.reduceLT, Int.reduceToNat, reduceCtorEq, Int.reduceAdd, Int.reduceSub, Int.reduceMul, Int.reduceNeg, Int.reduceLT, Int.reduceLE, Int.reduceEq], by (simp (disch := first | assumption | omega | (simp only [go_sem, ne_eq, Nat.reduceAdd, Nat.reduceLeDiff] <;> omega) | fail) only [go_sem, ↓reduceIte, Nat.reduceEqDiff, Nat.reduceAdd, Nat.reduceBEq, Nat.reduceLeDiff, Nat.reduceMul, Nat.reduceLT, Int.reduceToNat, reduceCtorEq, Int.reduceAdd, Int.reduceSub, Int.reduceMul, Int.reduceNeg, Int.reduceLT, Int.reduceLE, Int.reduceEq]) <;> rfl, by (simp (disch := first | assumption | omega | (simp only [go_sem, ne_eq, Nat.reduceAdd, Nat.reduceLeDiff] <;> omega) | fail) only [go_sem, ↓reduceIte, Nat.reduceEqDiff, Nat.reduceAdd, Nat.reduceBEq, Nat.reduceLeDiff, Nat.reduceMul, Nat.reduceLT, Int.reduceToNat, reduceCtorEq, Int.reduceAdd, Int.reduceSub, Int.reduceMul, Int.reduceNeg, Int.reduceLT, Int.reduceLE, Int.reduceEq]) <;> rw [j1], by (dsimp only; (try first | refine ⟨trivial, ?_⟩ | refine ⟨rfl, ?_⟩); (repeat (first | exact Grs.refl _ | assumption | refine Grs.push ?_ | refine Grs.ov ?_ | refine Grs.put ?_ (by (try simp only [Hp.next_push, Hp.next_put, Hp.ov_next, Hp.clk_push, Hp.clk_put, Hp.ov_clk]); omega)))), Nat.le_refl _, hpos, rfl⟩
  · rintro m ⟨tm, hp⟩ ⟨i, h0, h4, h3, hG, h1i, hle, rfl⟩
    simp only at h0 h4 h3 hG
    have rz := (hS.grs hG).rz
    have ln := rz.len
    have ad := rz.adr
    obtain ⟨own, st, hg, ht, hst⟩ := rz.get (by omega)
    by_cases hlt : i < l.length
    · have hlt' : (i : Int) < l.length := by omega
      have hle1 : i * 5 + 5 ≤ (l.flatMap Tk.l).length := by rw [hls]; omega
      have hel : List.take 5 (List.drop (i * 5) (l.flatMap Tk.l)) = tkL l[i].d l[i].n l[i].p l[i].t l[i].z := flat_at Tk.l_len hlt
      have hz1 : chkE l[i].d l[i].n l[i].p l[i].t l[i].z = 0 := hz _ (List.getElem_mem hlt)
      have htk : l.take (i + 1) = l.take i ++ [l[i]] := by rw [List.take_add_one]; simp [hlt]
      have hjs : joinT (l.take (i + 1)) = joinT (l.take i) ++ ([32, 47, 32] ++ l[i].s) := by
        unfold joinT; rw [htk, List.map_append, List.map_cons, List.map_nil, join_snoc]
        intro e
        rw [List.map_eq_nil_iff, List.take_eq_nil_iff] at e
        rcases e with e | e
        · omega
        · exact hne e
      have hsl : l[i].s.length ≤ 62 := s_len hz1
      have hjl := join_len (sep := [32, 47, 32]) (l := (l.take i).map Tk.s) (B := 62) (fun w hw => by
        rw [List.mem_map] at hw
        obtain ⟨k, hk, rfl⟩ := hw
        exact s_len (hz k (List.mem_of_mem_take hk)))
      simp only [List.length_map, List.length_take, List.length_cons, List.length_nil] at hjl
      have hjb : (joinT (l.take i)).length ≤ 65 * 256 := by
        have : (joinT (l.take i)).length ≤ min i l.length * (62 + (0 + 1 + 1 + 1)) := hjl
        omega
      unfold Tk.s at hsl hjs
      generalize l[i] = k at *
      generalize joinT (l.take i) = J at *
      repeat' (with_reducible first | simp (disch := first | assumption | omega | (simp only [go_sem, ne_eq, Nat.reduceAdd, Nat.reduceLeDiff] <;> omega) | fail) only [go_sem, ↓reduceIte, Nat.reduceEqDiff, Nat.reduceAdd, Nat.reduceBEq, Nat.reduceLeDiff, Nat.reduceMul, Nat.reduceLT, Int.reduceToNat, reduceCtorEq, Int.reduceAdd, Int.reduceSub, Int.reduceMul, Int.reduceNeg, Int.reduceLT, Int.reduceLE, Int.reduceEq, h0, h4, h3, ln, ad, hlt', hg, hle1, hel] | (refine Gv.wp (r156 hz1) fun _ _ _ _ => ?_) | ((first | apply k1 | apply k2 | apply k3 | apply k4 | apply k5 | apply k6 | apply k7) <;> intro hc))
      refine ⟨_, ?_, i + 1, rfl, ?_, hG.trans (by (try first | refine ⟨trivial, ?_⟩ | refine ⟨rfl, ?_⟩); (repeat (first | exact Grs.refl _ | assumption | refine Grs.push ?_ | refine Grs.ov ?_ | refine Grs.put ?_ (by (try simp only [Hp.next_push, Hp.next_put, Hp.ov_next, Hp.clk_push, Hp.clk_put, Hp.ov_clk]); omega)))), by omega, hlt, rfl⟩
      · omega
      · rw [hjs]; simp
    · have hlt' : ¬ (i : Int) < l.length := by omega
      obtain rfl : i = l.length := by omega
      rw [List.take_length] at h3
      repeat' (with_reducible first | simp (disch := first | assumption | omega | (simp only [go_sem, ne_eq, Nat.reduceAdd, Nat.reduceLeDiff] <;> omega) | fail) only [go_sem, ↓reduceIte, Nat.reduceEqDiff, Nat.reduceAdd, Nat.reduceBEq, Nat.reduceLeDiff, Nat.reduceMul, Nat.reduceLT, Int.reduceToNat, reduceCtorEq, Int.reduceAdd, Int.reduceSub, Int.reduceMul, Int.reduceNeg, Int.reduceLT, Int.reduceLE, Int.reduceEq, h0, h4, h3, ln, hlt'] | ((first | apply k1 | apply k2 | apply k3 | apply k4 | apply k5 | apply k6 | apply k7) <;> intro hc))
      exact hG
theorem b_tk {d : List UInt8} {n t z : Int} {p : Bool} : binA .neq (.plain [(0, .str), (1, .int), (2, .bool), (3, .int), (4, .int)]) (tkt d n p t z) (tkt d n p t z) = some (.bool false) := by
  simp [binA, eqA, eqPlain, eqLs, eqLeaf, sameK_eq, eqI_eq]
theorem r54 {v w : AV} {l : List Tk} (hS : RowS 5 h v l.length (l.flatMap Tk.l)) (hT : RowS 5 h w l.length (l.flatMap Tk.l)) (hl : l.length ≤ 1000000) : Gv E5 54 [v, w] h (.bool true) := by
  refine Gv.of (CallWp.fn (fn := R.a54) rfl rfl rfl ?_)
  unfold R.a54
  have hls := hS.1
  have ln := hS.rz.len
  have lm := hT.rz.len
  repeat' (with_reducible first | simp (disch := first | assumption | omega | (simp only [go_sem, ne_eq, Nat.reduceAdd, Nat.reduceLeDiff] <;> omega) | fail) only [go_sem, ↓reduceIte, Nat.reduceEqDiff, Nat.reduceAdd, Nat.reduceBEq, Nat.reduceLeDiff, Nat.reduceMul, Nat.reduceLT, Int.reduceToNat, reduceCtorEq, Int.reduceAdd, Int.reduceSub, Int.reduceMul, Int.reduceNeg, Int.reduceLT, Int.reduceLE, Int.reduceEq, ln, lm] | ((first | apply k1 | apply k2 | apply k3 | apply k4 | apply k5 | apply k6 | apply k7) <;> intro hc))
  refine Wp.loopI (fun m s => ∃ (i : Nat), val s.tm (.t 0) = v ∧ val s.tm (.t 1) = w ∧ val s.tm (.t 5) = .int .i64 i ∧ s.hp = h ∧ i ≤ l.length ∧ m = l.length - i) (n := l.length) ?_ ?_
  · exact ⟨0, by simp (disch := first | assumption | omega | (simp only [go_sem, ne_eq, Nat.reduceAdd, Nat.reduceLeDiff] <;> omega) | fail) only [go_sem, ↓reduceIte, Nat.reduceEqDiff, Nat.reduceAdd, Nat.reduceBEq, Nat.reduceLeDiff, Nat.reduceMul, Nat.reduceLT, Int.reduceToNat, reduceCtorEq, Int.reduceAdd, Int.reduceSub, Int.reduceMul, Int.reduceNeg, Int.reduceLT, Int.reduceLE, Int.reduceEq], by simp (disch := first | assumption | omega | (simp only [go_sem, ne_eq, Nat.reduceAdd, Nat.reduceLeDiff] <;> omega) | fail) only [go_sem, ↓reduceIte, Nat.reduceEqDiff, Nat.reduceAdd, Nat.reduceBEq, Nat.reduceLeDiff, Nat.reduceMul, Nat.reduceLT, Int.reduceToNat, reduceCtorEq, Int.reduceAdd, Int.reduceSub, Int.reduceMul, Int.reduceNeg, Int.reduceLT, Int.reduceLE, Int.reduceEq], by (simp (disch := first | assumption | omega | (simp only [go_sem, ne_eq, Nat.reduceAdd, Nat.reduceLeDiff] <;> omega) | fail) only [go_sem, ↓reduceIte, Nat.reduceEqDiff, Nat.reduceAdd, Nat.reduceBEq, Nat.reduceLeDiff, Nat.reduceMul, Nat.reduceLT, Int.reduceToNat, reduceCtorEq, Int.reduceAdd, Int.reduceSub, Int.reduceMul, Int.reduceNeg, Int.reduceLT, Int.reduceLE, Int.reduceEq]) <;> rfl, rfl, Nat.zero_le _, rfl⟩
  · rintro m ⟨tm, hp⟩ ⟨i, h0, h1, h5, rfl, hle, rfl⟩
    simp only at h0 h1 h5
    by_cases hlt : i < l.length
    · have hlt' : (i : Int) < l.length := by omega
      have ad := hS.rz.adr
      have bd := hT.rz.adr
      obtain ⟨own, st, hg, ht, hst⟩ := hS.rz.get (by omega)
      obtain ⟨own', st', hg', ht', hst'⟩ := hT.rz.get (by omega)
      have hle1 : i * 5 + 5 ≤ (l.flatMap Tk.l).length := by rw [hls]; omega
      have hel : List.take 5 (List.drop (i * 5) (l.flatMap Tk.l)) = tkL l[i].d l[i].n l[i].p l[i].t l[i].z := flat_at Tk.l_len hlt
      repeat' (with_reducible first | simp (disch := first | assumption | omega | (simp only [go_sem, ne_eq, Nat.reduceAdd, Nat.reduceLeDiff] <;> omega) | fail) only [go_sem, ↓reduceIte, Nat.reduceEqDiff, Nat.reduceAdd, Nat.reduceBEq, Nat.reduceLeDiff, Nat.reduceMul, Nat.reduceLT, Int.reduceToNat, reduceCtorEq, Int.reduceAdd, Int.reduceSub, Int.reduceMul, Int.reduceNeg, Int.reduceLT, Int.reduceLE, Int.reduceEq, h0, h1, h5, ln, ad, bd, hlt', hg, hg', hle1, hel, b_tk] | ((first | apply k1 | apply k2 | apply k3 | apply k4 | apply k5 | apply k6 | apply k7) <;> intro hc))
      exact ⟨_, by omega, i + 1, rfl, hlt, rfl⟩
    · have hlt' : ¬ (i : Int) < l.length := by omega
      repeat' (with_reducible first | simp (disch := first | assumption | omega | (simp only [go_sem, ne_eq, Nat.reduceAdd, Nat.reduceLeDiff] <;> omega) | fail) only [go_sem, ↓reduceIte, Nat.reduceEqDiff, Nat.reduceAdd, Nat.reduceBEq, Nat.reduceLeDiff, Nat.reduceMul, Nat.reduceLT, Int.reduceToNat, reduceCtorEq, Int.reduceAdd, Int.reduceSub, Int.reduceMul, Int.reduceNeg, Int.reduceLT, Int.reduceLE, Int.reduceEq, h0, h1, h5, ln, hlt'] | ((first | apply k1 | apply k2 | apply k3 | apply k4 | apply k5 | apply k6 | apply k7) <;> intro hc))
end
end Go.Ae


/- Tickets: the reference's Parse. -/
set_option linter.unusedVariables false
set_option linter.unusedSimpArgs false
set_option maxRecDepth 100000
namespace Go.Ae
open N Go.Proofs
/-- The error, with what the reference computes. -/
theorem errV_many {i : Nat} {out : List Tk} {w : List UInt8} (h : (rdV w).2 = true) (hi : 256 ≤ i) : errV i out w = 5 := by
  unfold errV first4; rw [h]; simp [hi]
theorem errV_chk {i : Nat} {out : List Tk} {w : List UInt8} (h : (rdV w).2 = true) (hi : ¬ 256 ≤ i) (hc : (rdV w).1.e ≠ 0) : errV i out w = (rdV w).1.e := by
  unfold errV first4; rw [h]; simp [hi, hc]
theorem errV_kind {i : Nat} {out : List Tk} {w : List UInt8} (h : (rdV w).2 = true) (hi : ¬ 256 ≤ i) (hc : (rdV w).1.e = 0) : errV i out w = if 0 < i ∧ (rdV w).1.d ≠ headD out then 13 else 0 := by
  unfold errV first4; rw [h]; simp [hi, hc]
section
variable {h : Hp} {K : AV → Hp → Prop}
theorem r53 {s : List UInt8} (hs : s.length ≤ 100000) : Gp E5 53 [.str s] h fun v h' => ∃ w, v = .tup [w, .int .i64 (parseV s).2.1, .int .i64 (parseV s).2.2] ∧ RowS 5 h' w (parseV s).1.length ((parseV s).1.flatMap Tk.l) := by
  refine Gp.of (CallWp.fn (fn := T.a53) rfl rfl rfl ?_)
  unfold T.a53
  by_cases h1 : 4096 < s.length
  · have h1' : (4096 : Int) < s.length := by omega
    repeat' (with_reducible first | simp (disch := first | assumption | omega | (simp only [go_sem, ne_eq, Nat.reduceAdd, Nat.reduceLeDiff] <;> omega) | fail) only [go_sem, ↓reduceIte, Nat.reduceEqDiff, Nat.reduceAdd, Nat.reduceBEq, Nat.reduceLeDiff, Nat.reduceMul, Nat.reduceLT, Int.reduceToNat, reduceCtorEq, Int.reduceAdd, Int.reduceSub, Int.reduceMul, Int.reduceNeg, Int.reduceLT, Int.reduceLE, Int.reduceEq, h1'] | ((first | apply k1 | apply k2 | apply k3 | apply k4 | apply k5 | apply k6 | apply k7) <;> intro hc))
    have e : parseV s = ([], 0, 26) := if_pos h1
    rw [e]
    exact ⟨.nils, rfl, OwnZ.nil.row (h0 := h)⟩
  have h1' : ¬ (4096 : Int) < s.length := by omega
  by_cases h0 : s = []
  · have h0' : (s.length : Int) = 0 := by rw [h0]; rfl
    repeat' (with_reducible first | simp (disch := first | assumption | omega | (simp only [go_sem, ne_eq, Nat.reduceAdd, Nat.reduceLeDiff] <;> omega) | fail) only [go_sem, ↓reduceIte, Nat.reduceEqDiff, Nat.reduceAdd, Nat.reduceBEq, Nat.reduceLeDiff, Nat.reduceMul, Nat.reduceLT, Int.reduceToNat, reduceCtorEq, Int.reduceAdd, Int.reduceSub, Int.reduceMul, Int.reduceNeg, Int.reduceLT, Int.reduceLE, Int.reduceEq, h1', h0'] | ((first | apply k1 | apply k2 | apply k3 | apply k4 | apply k5 | apply k6 | apply k7) <;> intro hc))
    have e : parseV s = ([], 0, 12) := by subst h0; simp [parseV]
    rw [e]
    exact ⟨.nils, rfl, OwnZ.nil.row (h0 := h)⟩
  have h0' : ¬ (s.length : Int) = 0 := by
    intro e; exact h0 (List.length_eq_zero_iff.1 (by omega))
  have eV : parseV s = parseGo 0 [] (splGo [32, 47, 32] s 0 0) := by unfold parseV; rw [if_neg h1, if_neg h0, wordsB_eq (by simp)]
  repeat' (with_reducible first | simp (disch := first | assumption | omega | (simp only [go_sem, ne_eq, Nat.reduceAdd, Nat.reduceLeDiff] <;> omega) | fail) only [go_sem, ↓reduceIte, Nat.reduceEqDiff, Nat.reduceAdd, Nat.reduceBEq, Nat.reduceLeDiff, Nat.reduceMul, Nat.reduceLT, Int.reduceToNat, reduceCtorEq, Int.reduceAdd, Int.reduceSub, Int.reduceMul, Int.reduceNeg, Int.reduceLT, Int.reduceLE, Int.reduceEq, h1', h0'] | ((first | apply k1 | apply k2 | apply k3 | apply k4 | apply k5 | apply k6 | apply k7) <;> intro hc))
  refine Gp.wp (r150 (by omega) (by simp)) fun vw h' k j g hw => ?_
  have hpart : ∀ w ∈ splGo [32, 47, 32] s 0 0, w.length ≤ s.length := fun w hw => splGo_part hw
  have hcnt : (splGo [32, 47, 32] s 0 0).length ≤ s.length + 1 := splGo_len (by simp) _ 0 0 rfl
  rw [eV]
  generalize splGo [32, 47, 32] s 0 0 = W at *
  repeat' (with_reducible first | simp (disch := first | assumption | omega | (simp only [go_sem, ne_eq, Nat.reduceAdd, Nat.reduceLeDiff] <;> omega) | fail) only [go_sem, ↓reduceIte, Nat.reduceEqDiff, Nat.reduceAdd, Nat.reduceBEq, Nat.reduceLeDiff, Nat.reduceMul, Nat.reduceLT, Int.reduceToNat, reduceCtorEq, Int.reduceAdd, Int.reduceSub, Int.reduceMul, Int.reduceNeg, Int.reduceLT, Int.reduceLE, Int.reduceEq] | ((first | apply k1 | apply k2 | apply k3 | apply k4 | apply k5 | apply k6 | apply k7) <;> intro hc))
  refine Wp.loopG (fun hW => RowS 1 hW vw W.length (W.map .str) ∧ Grs h hW) ⟨hw, by (dsimp only; (try first | refine ⟨trivial, ?_⟩ | refine ⟨rfl, ?_⟩); (repeat (first | exact Grs.refl _ | assumption | refine Grs.push ?_ | refine Grs.ov ?_ | refine Grs.put ?_ (by (try simp only [Hp.next_push, Hp.next_put, Hp.ov_next, Hp.clk_push, Hp.clk_put, Hp.ov_clk]); omega))))⟩
    (fun hW m st => ∃ (i : Nat) (v : AV) (out : List Tk), val st.tm (.t 5) = vw ∧ val st.tm (.t 7) = .int .i64 i ∧ val st.tm (.t 6) = v ∧
      Grs hW st.hp ∧ OwnZ 5 hW st.hp v out.length (out.flatMap Tk.l) ∧ out.length = i ∧ i ≤ W.length ∧ parseGo 0 [] W = parseGo i out (W.drop i) ∧ m = W.length - i) (n := W.length) ?_ ?_
  · exact ⟨0, .nils, [], by simp (disch := first | assumption | omega | (simp only [go_sem, ne_eq, Nat.reduceAdd, Nat.reduceLeDiff] <;> omega) | fail) only [go_sem, ↓reduceIte, Nat.reduceEqDiff, Nat.reduceAdd, Nat.reduceBEq, Nat.reduceLeDiff, Nat.reduceMul, Nat.reduceLT, Int.reduceToNat, reduceCtorEq, Int.reduceAdd, Int.reduceSub, Int.reduceMul, Int.reduceNeg, Int.reduceLT, Int.reduceLE, Int.reduceEq], by (simp (disch := first | assumption | omega | (simp only [go_sem, ne_eq, Nat.reduceAdd, Nat.reduceLeDiff] <;> omega) | fail) only [go_sem, ↓reduceIte, Nat.reduceEqDiff, Nat.reduceAdd, Nat.reduceBEq, Nat.reduceLeDiff, Nat.reduceMul, Nat.reduceLT, Int.reduceToNat, reduceCtorEq, Int.reduceAdd, Int.reduceSub, Int.reduceMul, Int.reduceNeg, Int.reduceLT, Int.reduceLE, Int.reduceEq]) <;> rfl, by simp (disch := first | assumption | omega | (simp only [go_sem, ne_eq, Nat.reduceAdd, Nat.reduceLeDiff] <;> omega) | fail) only [go_sem, ↓reduceIte, Nat.reduceEqDiff, Nat.reduceAdd, Nat.reduceBEq, Nat.reduceLeDiff, Nat.reduceMul, Nat.reduceLT, Int.reduceToNat, reduceCtorEq, Int.reduceAdd, Int.reduceSub, Int.reduceMul, Int.reduceNeg, Int.reduceLT, Int.reduceLE, Int.reduceEq], Grs.refl _, OwnZ.nil, rfl, Nat.zero_le _, by simp, rfl⟩
  · rintro hW ⟨hwW, hGW⟩ m ⟨tm, hp⟩ ⟨i, v, out, h5, h7, h6, hG, hO, hol, hle, heq, rfl⟩
    simp only at h5 h7 h6 hG hO
    have hn := hG.next
    have rw1 := (hwW.grs hG).rz
    have ln := rw1.len
    by_cases hlt : i < W.length
    · have hlt' : (i : Int) < W.length := by omega
      have hle1 : i + 1 ≤ W.length := hlt
      have adw := rw1.adr
      obtain ⟨own, st, hgw, htw, hsw⟩ := rw1.get (by omega)
      have hw : (W.map AV.str)[i]? = some (.str W[i]) := by simp [hlt]
      have hwl := hpart W[i] (List.getElem_mem hlt)
      have hstep := parseGo_step (out := out) hlt
      have hrd := rd_eq W[i]
      have hpr := rd_pair (s := W[i])
      have em := errV_many (i := i) (out := out) (w := W[i])
      have ec := errV_chk (i := i) (out := out) (w := W[i])
      have ek := errV_kind (i := i) (out := out) (w := W[i])
      have en := errV_no (i := i) (out := out) (w := W[i])
      generalize W[i] = w at *
      cases hok : (rdV w).2
      · have hok' : (rdR w).2 = false := by rw [hrd.1, hok]
        rw [en hok, if_pos (by decide)] at hstep
        repeat' (with_reducible first | simp (disch := first | assumption | omega | (simp only [go_sem, ne_eq, Nat.reduceAdd, Nat.reduceLeDiff] <;> omega) | fail) only [go_sem, ↓reduceIte, Nat.reduceEqDiff, Nat.reduceAdd, Nat.reduceBEq, Nat.reduceLeDiff, Nat.reduceMul, Nat.reduceLT, Int.reduceToNat, reduceCtorEq, Int.reduceAdd, Int.reduceSub, Int.reduceMul, Int.reduceNeg, Int.reduceLT, Int.reduceLE, Int.reduceEq, h5, h7, h6, ln, hlt', adw, hgw, hw, hle1, hok'] | (refine Gv.wp (r160 (by omega)) fun _ _ _ _ => ?_) | ((first | apply k1 | apply k2 | apply k3 | apply k4 | apply k5 | apply k6 | apply k7) <;> intro hc))
        rw [heq, hstep]
        refine ⟨⟨.nils, by simp, OwnZ.nil.row (h0 := h)⟩, ?_⟩
        refine hGW.trans (hG.trans ?_)
        (try first | refine ⟨trivial, ?_⟩ | refine ⟨rfl, ?_⟩); (repeat (first | exact Grs.refl _ | assumption | refine Grs.push ?_ | refine Grs.ov ?_ | refine Grs.put ?_ (by (try simp only [Hp.next_push, Hp.next_put, Hp.ov_next, Hp.clk_push, Hp.clk_put, Hp.ov_clk]); omega)))
      · have hp2 := hpr hok
        by_cases hm : 256 ≤ i
        · have hm' : (256 : Int) ≤ i := by omega
          rw [em hok hm, if_pos (by decide)] at hstep
          repeat' (with_reducible first | simp (disch := first | assumption | omega | (simp only [go_sem, ne_eq, Nat.reduceAdd, Nat.reduceLeDiff] <;> omega) | fail) only [go_sem, ↓reduceIte, Nat.reduceEqDiff, Nat.reduceAdd, Nat.reduceBEq, Nat.reduceLeDiff, Nat.reduceMul, Nat.reduceLT, Int.reduceToNat, reduceCtorEq, Int.reduceAdd, Int.reduceSub, Int.reduceMul, Int.reduceNeg, Int.reduceLT, Int.reduceLE, Int.reduceEq, h5, h7, h6, ln, hlt', adw, hgw, hw, hle1, hp2, hok, hm'] | (refine Gv.wp (r160 (by omega)) fun _ _ _ _ => ?_) | ((first | apply k1 | apply k2 | apply k3 | apply k4 | apply k5 | apply k6 | apply k7) <;> intro hc))
          rw [heq, hstep]
          refine ⟨⟨.nils, by simp, OwnZ.nil.row (h0 := h)⟩, ?_⟩
          refine hGW.trans (hG.trans ?_)
          (try first | refine ⟨trivial, ?_⟩ | refine ⟨rfl, ?_⟩); (repeat (first | exact Grs.refl _ | assumption | refine Grs.push ?_ | refine Grs.ov ?_ | refine Grs.put ?_ (by (try simp only [Hp.next_push, Hp.next_put, Hp.ov_next, Hp.clk_push, Hp.clk_put, Hp.ov_clk]); omega)))
        · have hm' : ¬ (256 : Int) ≤ i := by omega
          by_cases hc : (rdV w).1.e = 0
          · have hc' : chkE (rdV w).1.d (rdV w).1.n (rdV w).1.p (rdV w).1.t (rdV w).1.z = 0 := hc
            rw [ek hok hm hc] at hstep
            by_cases hi0 : 0 < i
            · have hi0' : (0 : Int) < i := by omega
              have ro := hO.row.rz
              have ado := ro.adr
              obtain ⟨own2, st2, hgo, hto, hso⟩ := ro.get (by omega)
              have hne : ¬ out = [] := by intro e; rw [e] at hol; simp at hol; omega
              have hd0 := head_get hne
              have hlc : 1 ≤ (out.flatMap Tk.l).length := by rw [hO.1]; omega
              have hol' : (0 : Int) < out.length := by omega
              by_cases hd : (rdV w).1.d = headD out
              · have hd' : ((rdV w).1.d = headD out) = True := by simp [hd]
                have ev : (if 0 < i ∧ (rdV w).1.d ≠ headD out then (13 : Int) else 0) = 0 := if_neg (fun e => e.2 hd)
                rw [ev, if_neg (by decide)] at hstep
                repeat' (with_reducible first | simp (disch := first | assumption | omega | (simp only [go_sem, ne_eq, Nat.reduceAdd, Nat.reduceLeDiff] <;> omega) | fail) only [go_sem, ↓reduceIte, Nat.reduceEqDiff, Nat.reduceAdd, Nat.reduceBEq, Nat.reduceLeDiff, Nat.reduceMul, Nat.reduceLT, Int.reduceToNat, reduceCtorEq, Int.reduceAdd, Int.reduceSub, Int.reduceMul, Int.reduceNeg, Int.reduceLT, Int.reduceLE, Int.reduceEq, h5, h7, h6, ln, hlt', adw, hgw, hw, hle1, hp2, hok, hm', hc', hi0', ado, hgo, hd0, hlc, hol', hd', Nat.zero_mul] | (refine Gv.wp (r160 (by omega)) fun _ _ _ _ => ?_) | (refine Gv.wp (r47) fun _ _ _ _ => ?_) | ((first | apply k1 | apply k2 | apply k3 | apply k4 | apply k5 | apply k6 | apply k7) <;> intro hc))
                refine OwnZ.wp (h0 := hW) (b := 48) (by (first | omega | (simp only [Hp.next_push, Hp.next_put, Hp.ov_next, Hp.clk_push, Hp.clk_put, Hp.ov_clk] <;> omega) | fail)) (hG.trans (by (try first | refine ⟨trivial, ?_⟩ | refine ⟨rfl, ?_⟩); (repeat (first | exact Grs.refl _ | assumption | refine Grs.push ?_ | refine Grs.ov ?_ | refine Grs.put ?_ (by (try simp only [Hp.next_push, Hp.next_put, Hp.ov_next, Hp.clk_push, Hp.clk_put, Hp.ov_clk]); omega))))) (hO.grs (by (try first | refine ⟨trivial, ?_⟩ | refine ⟨rfl, ?_⟩); (repeat (first | exact Grs.refl _ | assumption | refine Grs.push ?_ | refine Grs.ov ?_ | refine Grs.put ?_ (by (try simp only [Hp.next_push, Hp.next_put, Hp.ov_next, Hp.clk_push, Hp.clk_put, Hp.ov_clk]); omega))))) rfl (by omega) (by omega) (by omega) fun v' h'' hG' hO' => ?_
                simp (disch := first | assumption | omega | (simp only [go_sem, ne_eq, Nat.reduceAdd, Nat.reduceLeDiff] <;> omega) | fail) only [go_sem, ↓reduceIte, Nat.reduceEqDiff, Nat.reduceAdd, Nat.reduceBEq, Nat.reduceLeDiff, Nat.reduceMul, Nat.reduceLT, Int.reduceToNat, reduceCtorEq, Int.reduceAdd, Int.reduceSub, Int.reduceMul, Int.reduceNeg, Int.reduceLT, Int.reduceLE, Int.reduceEq, h5, h7]
                exact ⟨_, by omega, i + 1, v', out ++ [(rdV w).1], rfl, rfl, hG', by simpa [Tk.l] using hO', by simp [hol], hle1, heq.trans hstep, rfl⟩
              · have ev : (if 0 < i ∧ (rdV w).1.d ≠ headD out then (13 : Int) else 0) = 13 := if_pos ⟨hi0, hd⟩
                rw [ev, if_pos (by decide)] at hstep
                repeat' (with_reducible first | simp (disch := first | assumption | omega | (simp only [go_sem, ne_eq, Nat.reduceAdd, Nat.reduceLeDiff] <;> omega) | fail) only [go_sem, ↓reduceIte, Nat.reduceEqDiff, Nat.reduceAdd, Nat.reduceBEq, Nat.reduceLeDiff, Nat.reduceMul, Nat.reduceLT, Int.reduceToNat, reduceCtorEq, Int.reduceAdd, Int.reduceSub, Int.reduceMul, Int.reduceNeg, Int.reduceLT, Int.reduceLE, Int.reduceEq, h5, h7, h6, ln, hlt', adw, hgw, hw, hle1, hp2, hok, hm', hc', hi0', ado, hgo, hd0, hlc, hol', hd, Nat.zero_mul] | (refine Gv.wp (r160 (by omega)) fun _ _ _ _ => ?_) | (refine Gv.wp (r47) fun _ _ _ _ => ?_) | ((first | apply k1 | apply k2 | apply k3 | apply k4 | apply k5 | apply k6 | apply k7) <;> intro hc))
                rw [heq, hstep]
                refine ⟨⟨.nils, by simp, OwnZ.nil.row (h0 := h)⟩, ?_⟩
                refine hGW.trans (hG.trans ?_)
                (try first | refine ⟨trivial, ?_⟩ | refine ⟨rfl, ?_⟩); (repeat (first | exact Grs.refl _ | assumption | refine Grs.push ?_ | refine Grs.ov ?_ | refine Grs.put ?_ (by (try simp only [Hp.next_push, Hp.next_put, Hp.ov_next, Hp.clk_push, Hp.clk_put, Hp.ov_clk]); omega)))
            · have hi0' : ¬ (0 : Int) < i := by omega
              have ev : (if 0 < i ∧ (rdV w).1.d ≠ headD out then (13 : Int) else 0) = 0 := if_neg (fun e => hi0 e.1)
              rw [ev, if_neg (by decide)] at hstep
              repeat' (with_reducible first | simp (disch := first | assumption | omega | (simp only [go_sem, ne_eq, Nat.reduceAdd, Nat.reduceLeDiff] <;> omega) | fail) only [go_sem, ↓reduceIte, Nat.reduceEqDiff, Nat.reduceAdd, Nat.reduceBEq, Nat.reduceLeDiff, Nat.reduceMul, Nat.reduceLT, Int.reduceToNat, reduceCtorEq, Int.reduceAdd, Int.reduceSub, Int.reduceMul, Int.reduceNeg, Int.reduceLT, Int.reduceLE, Int.reduceEq, h5, h7, h6, ln, hlt', adw, hgw, hw, hle1, hp2, hok, hm', hc', hi0'] | (refine Gv.wp (r160 (by omega)) fun _ _ _ _ => ?_) | (refine Gv.wp (r47) fun _ _ _ _ => ?_) | ((first | apply k1 | apply k2 | apply k3 | apply k4 | apply k5 | apply k6 | apply k7) <;> intro hc))
              refine OwnZ.wp (h0 := hW) (b := 48) (by (first | omega | (simp only [Hp.next_push, Hp.next_put, Hp.ov_next, Hp.clk_push, Hp.clk_put, Hp.ov_clk] <;> omega) | fail)) (hG.trans (by (try first | refine ⟨trivial, ?_⟩ | refine ⟨rfl, ?_⟩); (repeat (first | exact Grs.refl _ | assumption | refine Grs.push ?_ | refine Grs.ov ?_ | refine Grs.put ?_ (by (try simp only [Hp.next_push, Hp.next_put, Hp.ov_next, Hp.clk_push, Hp.clk_put, Hp.ov_clk]); omega))))) (hO.grs (by (try first | refine ⟨trivial, ?_⟩ | refine ⟨rfl, ?_⟩); (repeat (first | exact Grs.refl _ | assumption | refine Grs.push ?_ | refine Grs.ov ?_ | refine Grs.put ?_ (by (try simp only [Hp.next_push, Hp.next_put, Hp.ov_next, Hp.clk_push, Hp.clk_put, Hp.ov_clk]); omega))))) rfl (by omega) (by omega) (by omega) fun v' h'' hG' hO' => ?_
              simp (disch := first | assumption | omega | (simp only [go_sem, ne_eq, Nat.reduceAdd, Nat.reduceLeDiff] <;> omega) | fail) only [go_sem, ↓reduceIte, Nat.reduceEqDiff, Nat.reduceAdd, Nat.reduceBEq, Nat.reduceLeDiff, Nat.reduceMul, Nat.reduceLT, Int.reduceToNat, reduceCtorEq, Int.reduceAdd, Int.reduceSub, Int.reduceMul, Int.reduceNeg, Int.reduceLT, Int.reduceLE, Int.reduceEq, h5, h7]
              exact ⟨_, by omega, i + 1, v', out ++ [(rdV w).1], rfl, rfl, hG', by simpa [Tk.l] using hO', by simp [hol], hle1, heq.trans hstep, rfl⟩
          · have hc' : ¬ chkE (rdV w).1.d (rdV w).1.n (rdV w).1.p (rdV w).1.t (rdV w).1.z = 0 := hc
            rw [ec hok hm hc, if_pos hc] at hstep
            repeat' (with_reducible first | simp (disch := first | assumption | omega | (simp only [go_sem, ne_eq, Nat.reduceAdd, Nat.reduceLeDiff] <;> omega) | fail) only [go_sem, ↓reduceIte, Nat.reduceEqDiff, Nat.reduceAdd, Nat.reduceBEq, Nat.reduceLeDiff, Nat.reduceMul, Nat.reduceLT, Int.reduceToNat, reduceCtorEq, Int.reduceAdd, Int.reduceSub, Int.reduceMul, Int.reduceNeg, Int.reduceLT, Int.reduceLE, Int.reduceEq, h5, h7, h6, ln, hlt', adw, hgw, hw, hle1, hp2, hok, hm', hc'] | (refine Gv.wp (r160 (by omega)) fun _ _ _ _ => ?_) | (refine Gv.wp (r47) fun _ _ _ _ => ?_) | ((first | apply k1 | apply k2 | apply k3 | apply k4 | apply k5 | apply k6 | apply k7) <;> intro hc))
            rw [heq, hstep]
            refine ⟨⟨.nils, by simp [Tk.e], OwnZ.nil.row (h0 := h)⟩, ?_⟩
            refine hGW.trans (hG.trans ?_)
            (try first | refine ⟨trivial, ?_⟩ | refine ⟨rfl, ?_⟩); (repeat (first | exact Grs.refl _ | assumption | refine Grs.push ?_ | refine Grs.ov ?_ | refine Grs.put ?_ (by (try simp only [Hp.next_push, Hp.next_put, Hp.ov_next, Hp.clk_push, Hp.clk_put, Hp.ov_clk]); omega)))
    · have hlt' : ¬ (i : Int) < W.length := by omega
      obtain rfl : i = W.length := by omega
      repeat' (with_reducible first | simp (disch := first | assumption | omega | (simp only [go_sem, ne_eq, Nat.reduceAdd, Nat.reduceLeDiff] <;> omega) | fail) only [go_sem, ↓reduceIte, Nat.reduceEqDiff, Nat.reduceAdd, Nat.reduceBEq, Nat.reduceLeDiff, Nat.reduceMul, Nat.reduceLT, Int.reduceToNat, reduceCtorEq, Int.reduceAdd, Int.reduceSub, Int.reduceMul, Int.reduceNeg, Int.reduceLT, Int.reduceLE, Int.reduceEq, h5, h7, h6, ln, hlt'] | ((first | apply k1 | apply k2 | apply k3 | apply k4 | apply k5 | apply k6 | apply k7) <;> intro hc))
      have e : parseGo 0 [] W = (out, 0, 0) := by rw [heq, List.drop_length]; rfl
      rw [e]
      exact ⟨⟨v, rfl, hO.row⟩, hGW.trans hG⟩
end
end Go.Ae


/- Tickets: the law. -/
set_option linter.unusedVariables false
set_option linter.unusedSimpArgs false
set_option maxRecDepth 100000
namespace Go.Ae
open N Go.Proofs
theorem parseGo_len : ∀ (W : List (List UInt8)) (i : Nat) (out : List Tk), (parseGo i out W).1.length ≤ out.length + W.length
  | [], i, out => by simp [parseGo]
  | w :: r, i, out => by
    rw [parseGo]
    split
    · simp
    · have := parseGo_len r (i + 1) (out ++ [(rdV w).1]); simp at this ⊢; omega
theorem parseV_len {s : List UInt8} : (parseV s).1.length ≤ s.length + 1 := by
  unfold parseV
  split
  · simp
  · split
    · simp
    · have h1 := parseGo_len (wordsB s [32, 47, 32]) 0 []
      have h2 : (wordsB s [32, 47, 32]).length ≤ s.length + 1 := by rw [wordsB_eq (by simp)]; exact splGo_len (by simp) _ 0 0 rfl
      simp only [List.length_nil] at h1; omega
section
variable {h : Hp} {K : AV → Hp → Prop}
theorem RowS.ov {h h' : Hp} {z k j n : Nat} {g : Grw h h' k j} {v : AV} {cs : List AV} (o : RowS z h v n cs) : RowS z (h.ov h' g) v n cs := o.grs ⟨k, j, g⟩
theorem law7 {v : AV} {l : List Tk} {s : List UInt8} (hS : RowS 5 h v l.length (l.flatMap Tk.l)) : Gv E5 7 [v, .str s] h (.bool true) := by
  refine Gv.of (CallWp.fn (fn := T.a7) rfl rfl rfl ?_)
  have d17 : ∀ {h : Hp} {K : AV → Hp → Prop}, CallWp E5 17 [] h K ↔ K (.bool true) h := fun {h K} => u5 fun K => c17
  have d41 : ∀ {s w : List UInt8} {e b : Int} {h : Hp} {K : AV → Hp → Prop}, CallWp E5 41 [.str s, .int .i64 e, .int .i64 b, .str w] h K ↔ K (.bool (if b = 0 then decide (e = 0 ∧ s = w) else decide (s = [] ∧ e = b))) h := fun {s w e b h K} => u5 fun K => c41
  have hls := hS.1
  have ln := hS.rz.len
  by_cases h1 : 260 < l.length
  · have h1' : (260 : Int) < l.length := by omega
    unfold T.a7
    repeat' (with_reducible first | simp (disch := first | assumption | omega | (simp only [go_sem, ne_eq, Nat.reduceAdd, Nat.reduceLeDiff] <;> omega) | fail) only [go_sem, ↓reduceIte, Nat.reduceEqDiff, Nat.reduceAdd, Nat.reduceBEq, Nat.reduceLeDiff, Nat.reduceMul, Nat.reduceLT, Int.reduceToNat, reduceCtorEq, Int.reduceAdd, Int.reduceSub, Int.reduceMul, Int.reduceNeg, Int.reduceLT, Int.reduceLE, Int.reduceEq, d17, ln, h1'] | ((first | apply k1 | apply k2 | apply k3 | apply k4 | apply k5 | apply k6 | apply k7) <;> intro hc))
  have h1' : ¬ (260 : Int) < l.length := by omega
  by_cases h2 : 4200 < s.length
  · have h2' : (4200 : Int) < s.length := by omega
    unfold T.a7
    repeat' (with_reducible first | simp (disch := first | assumption | omega | (simp only [go_sem, ne_eq, Nat.reduceAdd, Nat.reduceLeDiff] <;> omega) | fail) only [go_sem, ↓reduceIte, Nat.reduceEqDiff, Nat.reduceAdd, Nat.reduceBEq, Nat.reduceLeDiff, Nat.reduceMul, Nat.reduceLT, Int.reduceToNat, reduceCtorEq, Int.reduceAdd, Int.reduceSub, Int.reduceMul, Int.reduceNeg, Int.reduceLT, Int.reduceLE, Int.reduceEq, d17, ln, h1', h2'] | ((first | apply k1 | apply k2 | apply k3 | apply k4 | apply k5 | apply k6 | apply k7) <;> intro hc))
  have h2' : ¬ (4200 : Int) < s.length := by omega
  have tail : ∀ (hp : Hp) (tm : T AV), Grs h hp → val tm (.t 0) = v → val tm (.t 1) = .str s → Wp E5 (T.a7.code.post 3) ⟨tm, hp⟩ (RetQ [.tmp 4] fun v' h' => v' = .bool true ∧ Grs h h') := by
    intro hp tm hG t0 t1
    have hS1 := hS.grs hG
    have pl := parseV_len (s := s)
    have parse : ∀ (hq : Hp) (tm' : T AV), Grs h hq → val tm' (.t 1) = .str s → Wp E5 ((T.a7.code.post 6)) ⟨tm', hq⟩ (RetQ [.tmp 4] fun v' h' => v' = .bool true ∧ Grs h h') := by
      intro hq tm' hG1 t1
      unfold T.a7
      dsimp only [ACode.post]
      repeat' (with_reducible first | simp (disch := first | assumption | omega | (simp only [go_sem, ne_eq, Nat.reduceAdd, Nat.reduceLeDiff] <;> omega) | fail) only [go_sem, ↓reduceIte, Nat.reduceEqDiff, Nat.reduceAdd, Nat.reduceBEq, Nat.reduceLeDiff, Nat.reduceMul, Nat.reduceLT, Int.reduceToNat, reduceCtorEq, Int.reduceAdd, Int.reduceSub, Int.reduceMul, Int.reduceNeg, Int.reduceLT, Int.reduceLE, Int.reduceEq, t1] | ((first | apply k1 | apply k2 | apply k3 | apply k4 | apply k5 | apply k6 | apply k7) <;> intro hc))
      refine Gp.wp (gp5 (c52 (by omega))) fun w2 h2 k2 j2 g2 ⟨v2, e2, R2⟩ => ?_
      subst e2
      repeat' (with_reducible first | simp (disch := first | assumption | omega | (simp only [go_sem, ne_eq, Nat.reduceAdd, Nat.reduceLeDiff] <;> omega) | fail) only [go_sem, ↓reduceIte, Nat.reduceEqDiff, Nat.reduceAdd, Nat.reduceBEq, Nat.reduceLeDiff, Nat.reduceMul, Nat.reduceLT, Int.reduceToNat, reduceCtorEq, Int.reduceAdd, Int.reduceSub, Int.reduceMul, Int.reduceNeg, Int.reduceLT, Int.reduceLE, Int.reduceEq, t1] | ((first | apply k1 | apply k2 | apply k3 | apply k4 | apply k5 | apply k6 | apply k7) <;> intro hc))
      refine Gp.wp (r53 (by omega)) fun w3 h3 k3 j3 g3 ⟨v3, e3, R3⟩ => ?_
      subst e3
      have R2' := R2.ov (g := g3)
      repeat' (with_reducible first | simp (disch := first | assumption | omega | (simp only [go_sem, ne_eq, Nat.reduceAdd, Nat.reduceLeDiff] <;> omega) | fail) only [go_sem, ↓reduceIte, Nat.reduceEqDiff, Nat.reduceAdd, Nat.reduceBEq, Nat.reduceLeDiff, Nat.reduceMul, Nat.reduceLT, Int.reduceToNat, reduceCtorEq, Int.reduceAdd, Int.reduceSub, Int.reduceMul, Int.reduceNeg, Int.reduceLT, Int.reduceLE, Int.reduceEq, t1] | ((first | apply k1 | apply k2 | apply k3 | apply k4 | apply k5 | apply k6 | apply k7) <;> intro hc))
      refine Gp.wp (r50 R2' (by omega)) fun w4 h4 k4 j4 g4 R4 => ?_
      have R3' := R3.ov (g := g4)
      repeat' (with_reducible first | simp (disch := first | assumption | omega | (simp only [go_sem, ne_eq, Nat.reduceAdd, Nat.reduceLeDiff] <;> omega) | fail) only [go_sem, ↓reduceIte, Nat.reduceEqDiff, Nat.reduceAdd, Nat.reduceBEq, Nat.reduceLeDiff, Nat.reduceMul, Nat.reduceLT, Int.reduceToNat, reduceCtorEq, Int.reduceAdd, Int.reduceSub, Int.reduceMul, Int.reduceNeg, Int.reduceLT, Int.reduceLE, Int.reduceEq] | (refine Gv.wp (r54 R4 R3' (by omega)) fun _ _ _ _ => ?_) | ((first | apply k1 | apply k2 | apply k3 | apply k4 | apply k5 | apply k6 | apply k7) <;> intro hc))
      (try first | refine ⟨trivial, ?_⟩ | refine ⟨rfl, ?_⟩); (repeat (first | exact Grs.refl _ | assumption | refine Grs.push ?_ | refine Grs.ov ?_ | refine Grs.put ?_ (by (try simp only [Hp.next_push, Hp.next_put, Hp.ov_next, Hp.clk_push, Hp.clk_put, Hp.ov_clk]); omega)))
    refine Wp.cut 3 rfl ?_
    have epost : (ACode.post 3 (T.a7.code.post 3)) = T.a7.code.post 6 := rfl
    rw [epost]
    generalize T.a7.code.post 6 = r at parse ⊢
    unfold T.a7
    dsimp only [ACode.pre, ACode.post]
    repeat' (with_reducible first | simp (disch := first | assumption | omega | (simp only [go_sem, ne_eq, Nat.reduceAdd, Nat.reduceLeDiff] <;> omega) | fail) only [go_sem, ↓reduceIte, Nat.reduceEqDiff, Nat.reduceAdd, Nat.reduceBEq, Nat.reduceLeDiff, Nat.reduceMul, Nat.reduceLT, Int.reduceToNat, reduceCtorEq, Int.reduceAdd, Int.reduceSub, Int.reduceMul, Int.reduceNeg, Int.reduceLT, Int.reduceLE, Int.reduceEq, t0, t1] | (refine Gv.wp (gu5 (c48 hS1 (by omega))) fun _ _ _ _ => ?_) | ((first | apply k1 | apply k2 | apply k3 | apply k4 | apply k5 | apply k6 | apply k7) <;> intro hc))
    refine Gp.wp (r50 hS1.ov (by omega)) fun w1 h1 k1 j1 g1 hw1 => ?_
    by_cases hA : allE l = 0
    · have hp : prS l = (joinT l, 0) := if_pos hA
      repeat' (with_reducible first | simp (disch := first | assumption | omega | (simp only [go_sem, ne_eq, Nat.reduceAdd, Nat.reduceLeDiff] <;> omega) | fail) only [go_sem, ↓reduceIte, Nat.reduceEqDiff, Nat.reduceAdd, Nat.reduceBEq, Nat.reduceLeDiff, Nat.reduceMul, Nat.reduceLT, Int.reduceToNat, reduceCtorEq, Int.reduceAdd, Int.reduceSub, Int.reduceMul, Int.reduceNeg, Int.reduceLT, Int.reduceLE, Int.reduceEq, t0, t1, hp, hA, d41] | (refine Gv.wp (r49 hw1 (by omega)) fun _ _ _ _ => ?_) | ((first | apply k1 | apply k2 | apply k3 | apply k4 | apply k5 | apply k6 | apply k7) <;> intro hc))
      refine Gp.wp (r50 (hS1.grs (by (try first | refine ⟨trivial, ?_⟩ | refine ⟨rfl, ?_⟩); (repeat (first | exact Grs.refl _ | assumption | refine Grs.push ?_ | refine Grs.ov ?_ | refine Grs.put ?_ (by (try simp only [Hp.next_push, Hp.next_put, Hp.ov_next, Hp.clk_push, Hp.clk_put, Hp.ov_clk]); omega))))) (by omega)) fun w2 h2 k2 j2 g2 hw2 => ?_
      repeat' (with_reducible first | simp (disch := first | assumption | omega | (simp only [go_sem, ne_eq, Nat.reduceAdd, Nat.reduceLeDiff] <;> omega) | fail) only [go_sem, ↓reduceIte, Nat.reduceEqDiff, Nat.reduceAdd, Nat.reduceBEq, Nat.reduceLeDiff, Nat.reduceMul, Nat.reduceLT, Int.reduceToNat, reduceCtorEq, Int.reduceAdd, Int.reduceSub, Int.reduceMul, Int.reduceNeg, Int.reduceLT, Int.reduceLE, Int.reduceEq, t0, t1, hp, hA, d41] | (refine Gv.wp (r51 hw2 hA) fun _ _ _ _ => ?_) | ((first | apply k1 | apply k2 | apply k3 | apply k4 | apply k5 | apply k6 | apply k7) <;> intro hc))
      exact parse _ _ (hG.trans (by (try first | refine ⟨trivial, ?_⟩ | refine ⟨rfl, ?_⟩); (repeat (first | exact Grs.refl _ | assumption | refine Grs.push ?_ | refine Grs.ov ?_ | refine Grs.put ?_ (by (try simp only [Hp.next_push, Hp.next_put, Hp.ov_next, Hp.clk_push, Hp.clk_put, Hp.ov_clk]); omega))))) (by simp (disch := first | assumption | omega | (simp only [go_sem, ne_eq, Nat.reduceAdd, Nat.reduceLeDiff] <;> omega) | fail) only [go_sem, ↓reduceIte, Nat.reduceEqDiff, Nat.reduceAdd, Nat.reduceBEq, Nat.reduceLeDiff, Nat.reduceMul, Nat.reduceLT, Int.reduceToNat, reduceCtorEq, Int.reduceAdd, Int.reduceSub, Int.reduceMul, Int.reduceNeg, Int.reduceLT, Int.reduceLE, Int.reduceEq, t1])
    · have hp : prS l = ([], allE l) := if_neg hA
      repeat' (with_reducible first | simp (disch := first | assumption | omega | (simp only [go_sem, ne_eq, Nat.reduceAdd, Nat.reduceLeDiff] <;> omega) | fail) only [go_sem, ↓reduceIte, Nat.reduceEqDiff, Nat.reduceAdd, Nat.reduceBEq, Nat.reduceLeDiff, Nat.reduceMul, Nat.reduceLT, Int.reduceToNat, reduceCtorEq, Int.reduceAdd, Int.reduceSub, Int.reduceMul, Int.reduceNeg, Int.reduceLT, Int.reduceLE, Int.reduceEq, t0, t1, hp, hA, d41] | (refine Gv.wp (r49 hw1 (by omega)) fun _ _ _ _ => ?_) | ((first | apply k1 | apply k2 | apply k3 | apply k4 | apply k5 | apply k6 | apply k7) <;> intro hc))
      exact parse _ _ (hG.trans (by (try first | refine ⟨trivial, ?_⟩ | refine ⟨rfl, ?_⟩); (repeat (first | exact Grs.refl _ | assumption | refine Grs.push ?_ | refine Grs.ov ?_ | refine Grs.put ?_ (by (try simp only [Hp.next_push, Hp.next_put, Hp.ov_next, Hp.clk_push, Hp.clk_put, Hp.ov_clk]); omega))))) (by simp (disch := first | assumption | omega | (simp only [go_sem, ne_eq, Nat.reduceAdd, Nat.reduceLeDiff] <;> omega) | fail) only [go_sem, ↓reduceIte, Nat.reduceEqDiff, Nat.reduceAdd, Nat.reduceBEq, Nat.reduceLeDiff, Nat.reduceMul, Nat.reduceLT, Int.reduceToNat, reduceCtorEq, Int.reduceAdd, Int.reduceSub, Int.reduceMul, Int.reduceNeg, Int.reduceLT, Int.reduceLE, Int.reduceEq, t1])
  refine Wp.cut 3 rfl ?_
  generalize T.a7.code.post 3 = r at tail ⊢
  unfold T.a7
  dsimp only [ACode.pre]
  repeat' (with_reducible first | simp (disch := first | assumption | omega | (simp only [go_sem, ne_eq, Nat.reduceAdd, Nat.reduceLeDiff] <;> omega) | fail) only [go_sem, ↓reduceIte, Nat.reduceEqDiff, Nat.reduceAdd, Nat.reduceBEq, Nat.reduceLeDiff, Nat.reduceMul, Nat.reduceLT, Int.reduceToNat, reduceCtorEq, Int.reduceAdd, Int.reduceSub, Int.reduceMul, Int.reduceNeg, Int.reduceLT, Int.reduceLE, Int.reduceEq, d17, ln, h1', h2'] | ((first | apply k1 | apply k2 | apply k3 | apply k4 | apply k5 | apply k6 | apply k7) <;> intro hc))
  refine Wp.loopI (fun m s' => ∃ (i : Nat), val s'.tm (.t 0) = v ∧ val s'.tm (.t 1) = .str s ∧ val s'.tm (.t 5) = .int .i64 i ∧ Grs h s'.hp ∧ i ≤ l.length ∧ m = l.length - i) (n := l.length) ?_ ?_
  · exact ⟨0, by simp (disch := first | assumption | omega | (simp only [go_sem, ne_eq, Nat.reduceAdd, Nat.reduceLeDiff] <;> omega) | fail) only [go_sem, ↓reduceIte, Nat.reduceEqDiff, Nat.reduceAdd, Nat.reduceBEq, Nat.reduceLeDiff, Nat.reduceMul, Nat.reduceLT, Int.reduceToNat, reduceCtorEq, Int.reduceAdd, Int.reduceSub, Int.reduceMul, Int.reduceNeg, Int.reduceLT, Int.reduceLE, Int.reduceEq], by simp (disch := first | assumption | omega | (simp only [go_sem, ne_eq, Nat.reduceAdd, Nat.reduceLeDiff] <;> omega) | fail) only [go_sem, ↓reduceIte, Nat.reduceEqDiff, Nat.reduceAdd, Nat.reduceBEq, Nat.reduceLeDiff, Nat.reduceMul, Nat.reduceLT, Int.reduceToNat, reduceCtorEq, Int.reduceAdd, Int.reduceSub, Int.reduceMul, Int.reduceNeg, Int.reduceLT, Int.reduceLE, Int.reduceEq], by (simp (disch := first | assumption | omega | (simp only [go_sem, ne_eq, Nat.reduceAdd, Nat.reduceLeDiff] <;> omega) | fail) only [go_sem, ↓reduceIte, Nat.reduceEqDiff, Nat.reduceAdd, Nat.reduceBEq, Nat.reduceLeDiff, Nat.reduceMul, Nat.reduceLT, Int.reduceToNat, reduceCtorEq, Int.reduceAdd, Int.reduceSub, Int.reduceMul, Int.reduceNeg, Int.reduceLT, Int.reduceLE, Int.reduceEq]) <;> rfl, by (dsimp only; (try first | refine ⟨trivial, ?_⟩ | refine ⟨rfl, ?_⟩); (repeat (first | exact Grs.refl _ | assumption | refine Grs.push ?_ | refine Grs.ov ?_ | refine Grs.put ?_ (by (try simp only [Hp.next_push, Hp.next_put, Hp.ov_next, Hp.clk_push, Hp.clk_put, Hp.ov_clk]); omega)))), Nat.zero_le _, rfl⟩
  · rintro m ⟨tm, hp⟩ ⟨i, t0, t1, t5, hG, hle, rfl⟩
    simp only at t0 t1 t5 hG
    have rz := (hS.grs hG).rz
    have ln := rz.len
    by_cases hlt : i < l.length
    · have hlt' : (i : Int) < l.length := by omega
      have ad := rz.adr
      obtain ⟨own, st, hg, ht, hst⟩ := rz.get (by omega)
      have hle1 : i * 5 + 5 ≤ (l.flatMap Tk.l).length := by rw [hls]; omega
      have hle2 : i * 5 + 1 ≤ (l.flatMap Tk.l).length := by omega
      have hel : List.take 5 (List.drop (i * 5) (l.flatMap Tk.l)) = tkL l[i].d l[i].n l[i].p l[i].t l[i].z := flat_at Tk.l_len hlt
      have hed : (l.flatMap Tk.l)[i * 5]? = some (.str l[i].d) := by
        have := flat_get (j := 0) Tk.l_len hlt (by omega); simpa [Tk.l] using this
      generalize l[i] = k at *
      by_cases hd : 20 < k.d.length
      · have hd' : (20 : Int) < k.d.length := by omega
        repeat' (with_reducible first | simp (disch := first | assumption | omega | (simp only [go_sem, ne_eq, Nat.reduceAdd, Nat.reduceLeDiff] <;> omega) | fail) only [go_sem, ↓reduceIte, Nat.reduceEqDiff, Nat.reduceAdd, Nat.reduceBEq, Nat.reduceLeDiff, Nat.reduceMul, Nat.reduceLT, Int.reduceToNat, reduceCtorEq, Int.reduceAdd, Int.reduceSub, Int.reduceMul, Int.reduceNeg, Int.reduceLT, Int.reduceLE, Int.reduceEq, t0, t1, t5, ln, ad, hlt', hg, hle1, hle2, hel, hed, hd'] | ((first | apply k1 | apply k2 | apply k3 | apply k4 | apply k5 | apply k6 | apply k7) <;> intro hc))
        exact hG
      · have hd' : ¬ (20 : Int) < k.d.length := by omega
        repeat' (with_reducible first | simp (disch := first | assumption | omega | (simp only [go_sem, ne_eq, Nat.reduceAdd, Nat.reduceLeDiff] <;> omega) | fail) only [go_sem, ↓reduceIte, Nat.reduceEqDiff, Nat.reduceAdd, Nat.reduceBEq, Nat.reduceLeDiff, Nat.reduceMul, Nat.reduceLT, Int.reduceToNat, reduceCtorEq, Int.reduceAdd, Int.reduceSub, Int.reduceMul, Int.reduceNeg, Int.reduceLT, Int.reduceLE, Int.reduceEq, t0, t1, t5, ln, ad, hlt', hg, hle1, hle2, hel, hed, hd'] | (refine Gv.wp (gu5 c46) fun _ _ _ _ => ?_) | (refine Gv.wp (r47) fun _ _ _ _ => ?_) | ((first | apply k1 | apply k2 | apply k3 | apply k4 | apply k5 | apply k6 | apply k7) <;> intro hc))
        exact ⟨_, by omega, i + 1, rfl, hG.trans (by (try first | refine ⟨trivial, ?_⟩ | refine ⟨rfl, ?_⟩); (repeat (first | exact Grs.refl _ | assumption | refine Grs.push ?_ | refine Grs.ov ?_ | refine Grs.put ?_ (by (try simp only [Hp.next_push, Hp.next_put, Hp.ov_next, Hp.clk_push, Hp.clk_put, Hp.ov_clk]); omega)))), hlt, rfl⟩
    · have hlt' : ¬ (i : Int) < l.length := by omega
      repeat' (with_reducible first | simp (disch := first | assumption | omega | (simp only [go_sem, ne_eq, Nat.reduceAdd, Nat.reduceLeDiff] <;> omega) | fail) only [go_sem, ↓reduceIte, Nat.reduceEqDiff, Nat.reduceAdd, Nat.reduceBEq, Nat.reduceLeDiff, Nat.reduceMul, Nat.reduceLT, Int.reduceToNat, reduceCtorEq, Int.reduceAdd, Int.reduceSub, Int.reduceMul, Int.reduceNeg, Int.reduceLT, Int.reduceLE, Int.reduceEq, t0, t1, t5, ln, hlt'] | ((first | apply k1 | apply k2 | apply k3 | apply k4 | apply k5 | apply k6 | apply k7) <;> intro hc))
      exact tail _ _ hG (by simp (disch := first | assumption | omega | (simp only [go_sem, ne_eq, Nat.reduceAdd, Nat.reduceLeDiff] <;> omega) | fail) only [go_sem, ↓reduceIte, Nat.reduceEqDiff, Nat.reduceAdd, Nat.reduceBEq, Nat.reduceLeDiff, Nat.reduceMul, Nat.reduceLT, Int.reduceToNat, reduceCtorEq, Int.reduceAdd, Int.reduceSub, Int.reduceMul, Int.reduceNeg, Int.reduceLT, Int.reduceLE, Int.reduceEq, t0]) (by simp (disch := first | assumption | omega | (simp only [go_sem, ne_eq, Nat.reduceAdd, Nat.reduceLeDiff] <;> omega) | fail) only [go_sem, ↓reduceIte, Nat.reduceEqDiff, Nat.reduceAdd, Nat.reduceBEq, Nat.reduceLeDiff, Nat.reduceMul, Nat.reduceLT, Int.reduceToNat, reduceCtorEq, Int.reduceAdd, Int.reduceSub, Int.reduceMul, Int.reduceNeg, Int.reduceLT, Int.reduceLE, Int.reduceEq, t1])
end
end Go.Ae


/-
  NumberTickets returns true for every input: number.CheckTicket, number.Print and number.Parse return what the reference returns, or the first error. Condition: the package-level variables that the row lists read as their initialisers lay them.
-/
set_option linter.unusedVariables false
set_option maxRecDepth 100000
namespace Go.Proofs.YtdaggbpeoldmeaaGreatDoor.tickets
open Go.ChangeShapes Go.WideShapes Go.ChangeAt Go.RowKit Go.Ae laws
open Go.ChangeMaps (open_string shut_string)
theorem list5 {α : Type} {cs : List α} (h : cs.length = 5) : ∃ a b c d e, cs = [a, b, c, d, e] := by
  match cs, h with
  | [a, b, c, d, e], _ => exact ⟨a, b, c, d, e, rfl⟩
theorem cells71 : Tryz.prog.cellsOf 71 = 5 := by kernel_rfl
theorem cells9 : Tryz.prog.cellsOf 9 = 1 := by kernel_rfl
theorem cells3 : Tryz.prog.cellsOf 3 = 1 := by kernel_rfl
theorem cells4 : Tryz.prog.cellsOf 4 = 1 := by kernel_rfl
instance : Inhabited Tk := ⟨⟨[], 0, false, 0, 0⟩⟩
section
variable {H : Type} {enc : TypeId × Value → H} {W : World} {base : Nat} {sp : Nat → Bool} {hd : Bool}
/-- A ticket, read. -/
theorem open_tk {n : Nat} {cs : List Value} {x : DataW H × List MemPlace} (h : DataW.trod enc Tryz.prog W base sp hd n 71 cs = some x) : ∃ k : Tk, ∀ ρ, cs = encs ρ k.l := by
  obtain ⟨xs, n, _, _, hl, hlen, hf⟩ := DataW.trod_struct Tryz.underlying71 h
  rw [cells71] at hl
  obtain ⟨c0, c1, c2, c3, c4, rfl⟩ := list5 hl
  have h5 : xs.length = 5 := hlen
  obtain ⟨y0, e0⟩ : ∃ y, xs[0]? = some y := ⟨_, List.getElem?_eq_getElem (by omega)⟩
  obtain ⟨y1, e1⟩ : ∃ y, xs[1]? = some y := ⟨_, List.getElem?_eq_getElem (by omega)⟩
  obtain ⟨y2, e2⟩ : ∃ y, xs[2]? = some y := ⟨_, List.getElem?_eq_getElem (by omega)⟩
  obtain ⟨y3, e3⟩ : ∃ y, xs[3]? = some y := ⟨_, List.getElem?_eq_getElem (by omega)⟩
  obtain ⟨y4, e4⟩ : ∃ y, xs[4]? = some y := ⟨_, List.getElem?_eq_getElem (by omega)⟩
  obtain ⟨s, s0, _, _⟩ := DataW.trod_string Tryz.underlying9 ((hf 0 _ rfl).trans e0)
  obtain ⟨n1, s1, _, _⟩ := DataW.trod_int Tryz.underlying3 ((hf 1 _ rfl).trans e1)
  obtain ⟨b, s2, _⟩ := DataW.trod_bool Tryz.underlying4 ((hf 2 _ rfl).trans e2)
  obtain ⟨n3, s3, _, _⟩ := DataW.trod_int Tryz.underlying3 ((hf 3 _ rfl).trans e3)
  obtain ⟨n4, s4, _, _⟩ := DataW.trod_int Tryz.underlying3 ((hf 4 _ rfl).trans e4)
  have t0 : List.take (Tryz.prog.cellsOf 9) (List.drop 0 [c0, c1, c2, c3, c4]) = [.string s] := s0
  have t1 : List.take (Tryz.prog.cellsOf 3) (List.drop 1 [c0, c1, c2, c3, c4]) = [.int .i64 n1] := s1
  have t2 : List.take (Tryz.prog.cellsOf 4) (List.drop 2 [c0, c1, c2, c3, c4]) = [.bool b] := s2
  have t3 : List.take (Tryz.prog.cellsOf 3) (List.drop 3 [c0, c1, c2, c3, c4]) = [.int .i64 n3] := s3
  have t4 : List.take (Tryz.prog.cellsOf 3) (List.drop 4 [c0, c1, c2, c3, c4]) = [.int .i64 n4] := s4
  clear s0 s1 s2 s3 s4
  rw [cells9] at t0
  rw [cells3] at t1 t3 t4
  rw [cells4] at t2
  simp at t0 t1 t2 t3 t4
  subst t0 t1 t2 t3 t4
  exact ⟨⟨s.data.toList, n1, b, n3, n4⟩, fun ρ => by simp [Tk.l, encs, Ae.enc]⟩
/-- Tickets, read. -/
theorem open_tks {b o len cap : Nat} {d : DataW H} {p : List MemPlace} (h : DataW.Trod enc Tryz.prog W 0 (fun _ => true) true 69 (.slice (some ⟨b, o, none⟩) len cap) d p) :
    ∃ l : List Tk, l.length = len ∧ ∀ ρ : Rho, W.rangeAt b o (encs ρ (l.flatMap Tk.l)) := by
  obtain ⟨fuel, hf⟩ := h
  rcases Go.Deep.open_slice Tryz.underlying69 (by simpa [Value.cells] using hf) with ⟨hcs, _⟩ | ⟨a', len', cap', m, n, D, Pl, hcs, _, hlc, _, hm, _, hx⟩
  · simp at hcs
  · simp at hcs
    obtain ⟨rfl, rfl, rfl⟩ := hcs
    simp only [if_true] at hm
    subst hm
    rw [cells71] at hx
    have each : ∀ i, i < len → ∃ k : Tk, ∀ ρ, W.cells? 0 ((⟨b, o, none⟩ : Addr).add (i * 5)) 5 = some (encs ρ k.l) := fun i hi => by
      obtain ⟨cs', h1, h2⟩ := hx i (by omega)
      obtain ⟨k, hk⟩ := open_tk h2
      exact ⟨k, fun ρ => by rw [h1, hk ρ]⟩
    obtain ⟨f, hfk⟩ := Go.Deep.choose_lt each
    refine ⟨(List.range len).map f, by simp, fun ρ => range_cells (base := 0) (by decide) Tk.l_len fun i hi => ?_⟩
    have hi' : i < len := by simpa using hi
    rw [hfk i hi' ρ]; simp
end
theorem env5 {W0 : World} {base : Nat} (G : L.Glob W0 base) : EnvOk Tryz.prog W0 base E5 := ((env2 G).add R.good).add T.good
theorem flat_one (l : List Tk) : ∀ v ∈ l.flatMap Tk.l, v.one = true := by
  intro v hv
  rw [List.mem_flatMap] at hv
  obtain ⟨k, _, hk⟩ := hv
  simp only [Tk.l, List.mem_cons, List.not_mem_nil, or_false] at hk
  rcases hk with rfl | rfl | rfl | rfl | rfl <;> rfl
theorem flat_ok (ρ : Rho) (N : Nat) (l : List Tk) : oks ρ N (l.flatMap Tk.l) := by
  rw [oks_iff]
  intro v hv
  rw [List.mem_flatMap] at hv
  obtain ⟨k, _, hk⟩ := hv
  simp only [Tk.l, List.mem_cons, List.not_mem_nil, or_false] at hk
  rcases hk with rfl | rfl | rfl | rfl | rfl <;> simp [ok]
theorem contract (H : Type) (enc : TypeId × Value → H) (W : World) (base : Nat) (args : Array Value) (ds gs : List (DataW H)) (before : List MemPlace)
    (hval : ∀ (j : Nat) t v, Tryz.f7.params[j]? = some t → args[j]? = some v → Value.okWide Tryz.prog W .any base t v)
    (hW : DataW.Whole enc Tryz.prog Tryz.f7.params.toList Rows.numberTicketsSpec.vars false W args.toList ds gs before) (hL : laidMetH Tryz.prog Rows.numberTicketsRow.laid W) (hO : W.ShapedOpen Tryz.prog) :
    Calls Tryz.prog 7 args W fun e W' => ∃ v, e = .returned v ∧ Rows.numberTicketsSpec.post enc Tryz.prog Tryz.f7 false true false false W args v W' := by
  have hW' := hW
  obtain ⟨p, q, hA0, hV, rfl, hfz, hnd⟩ := hW
  have hA : DataW.TrodAll enc Tryz.prog W 0 (fun _ => true) true Tryz.f7.params.toList args.toList ds p := hA0
  have hA1 := hA
  rw [Tryz.params7] at hA hval
  obtain ⟨v0, vs0, d0, ds0, p0, q0, hargs, rfl, rfl, h0, r0⟩ := trodAll_cons hA
  obtain ⟨v1, vs1, d1, ds1, p1, q1, rfl, rfl, rfl, h1, r1⟩ := trodAll_cons r0
  obtain ⟨rfl, rfl, rfl⟩ := trodAll_nil r1
  obtain rfl : args = #[v0, v1] := by cases args; simp_all
  obtain ⟨rfl, rfl⟩ := trodVars_none hV
  obtain ⟨s, rfl, rfl, rfl, hs⟩ := open_string Tryz.underlying9 (hval 1 9 v1 rfl rfl) h1
  clear hA0
  have hlt := hW'.lt
  have hT : ∀ t ∈ Tryz.f7.params.toList, Tryz.prog.readableRec t = true ∧ t < Tryz.prog.types.size := by
    rw [Tryz.params7]
    intro t ht
    have : t = 69 ∨ t = 9 := by simpa using ht
    rcases this with rfl | rfl
    · exact ⟨by kernel_rfl, of_decide_eq_true (by kernel_rfl)⟩
    · exact ⟨by kernel_rfl, of_decide_eq_true (by kernel_rfl)⟩
  have fin : ∀ W', Below W.heap.size W W' → Rows.numberTicketsSpec.post enc Tryz.prog Tryz.f7 false true false false W #[v0, .string s] (.bool true) W' := fun W' hg =>
    post_below (pa := p0 ++ ([] ++ [])) (pv := []) hW' (fun _ _ _ => trodAll_cons_mk (shut_bool Tryz.underlying4 _) trodAll_mk0)
      (fun sp hsp => trodAll_stays (by kernel_rfl) hg hT hA1 (fun x hx => hlt x (List.mem_append_left _ hx)) (fun x hx => hsp x (List.mem_append_left _ hx))) (fun _ _ => rfl) rfl
      hg (ok_one (by kernel_rfl) rfl (okWide_bool_mk Tryz.underlying4 _))
  have G : L.Glob W W.heap.size := glob hL (by kernel_rfl) hO
  rcases arg_slice Tryz.underlying69 (hval 0 69 v0 rfl rfl) with rfl | ⟨b, o, len, cap, rfl, hlc, hb⟩
  · have law := law7 (h := .nil) (v := .nils) (l := []) (s := s.data.toList) ⟨rfl, .inl ⟨rfl, rfl⟩⟩
    have walk := calls_heap (ρ := fun _ => ⟨0, 0, 0, 0⟩) (env5 G) (f := 7) (by kernel_rfl) law (HRel.nil (Nat.le_refl _)) (by simp [oks, ok]) rfl
    have ea : (encs (fun _ => ⟨0, 0, 0, 0⟩) [AV.nils, AV.str s.data.toList]).toArray = #[Value.slice none 0 0, .string s] := by simp [Ae.encs, Ae.enc]
    rw [ea] at walk
    exact walk.mono fun e W' ⟨he, hg⟩ => ⟨_, he, fin W' hg⟩
  · obtain ⟨l, rfl, hr⟩ := open_tks h0
    have R : HRel W.heap.size (fun _ => ⟨b, o, cap, 5⟩) (Hp.nil.push fun s => .row (l.flatMap Tk.l) false s) W := HRel.arg (flat_one l) (flat_ok _ _ l) (hr _) hb
    have law := law7 (h := Hp.nil.push fun s => .row (l.flatMap Tk.l) false s) (v := .sl 0 0 l.length 5) (l := l) (s := s.data.toList) ⟨flat_len Tk.l_len l, .inr ⟨0, false, _, rfl, Hp.push_same, Nat.one_pos, Nat.le_refl _⟩⟩
    have walk := calls_heap (env5 G) (f := 7) (by kernel_rfl) law R (by simp [oks, ok, Hp.push]; omega) rfl
    have ea : (encs (fun _ => ⟨b, o, cap, 5⟩) [AV.sl 0 0 l.length 5, AV.str s.data.toList]).toArray = #[Value.slice (some ⟨b, o, none⟩) l.length cap, .string s] := by simp [Ae.encs, Ae.enc]
    rw [ea] at walk
    exact walk.mono fun e W' ⟨he, hg⟩ => ⟨_, he, fin W' hg⟩
abbrev z2 : Value := .slice none 0 0
theorem laid_met (os : Os) : laidMet Tryz.prog Rows.numberTicketsRow.laid ((laidWorld os).forCall (fun _ _ => 0) ⟨#[], #[z2, .string ⟨#[]⟩], []⟩).memory :=
  laidMet_of_run3 8 (by kernel_rfl) (by kernel_rfl) (by kernel_rfl)
theorem witness_row (os : Os) {H : Type} (enc : TypeId × Value → H) :
    (OpenSpec.ofChange Rows.numberTicketsSpec).preRow enc Tryz.prog Tryz.f7 Rows.numberTicketsRow.domain false Rows.numberTicketsRow.laid ((laidWorld os).forCall (fun _ _ => 0) ⟨#[], #[z2, .string ⟨#[]⟩], []⟩).memory #[z2, .string ⟨#[]⟩] := by
  have hw : (DataW.whole enc Tryz.prog ((laidWorld os).forCall (fun _ _ => 0) ⟨#[], #[z2, .string ⟨#[]⟩], []⟩).memory Tryz.f7.params.toList Rows.numberTicketsSpec.vars false #[z2, .string ⟨#[]⟩].toList 8).map (fun x => (x.1, x.2.1)) =
      some ([.nil, .lit (.string [])], []) := by kernel_rfl
  obtain ⟨⟨x1, x2, x3⟩, hx, hx1⟩ := Option.map_eq_some_iff.1 hw
  simp only [Prod.mk.injEq] at hx1
  obtain ⟨rfl, rfl⟩ := hx1
  exact OpenSpec.preRow_of_cond 8 hx (by kernel_rfl) (fun k hk => by cases hk) (by kernel_rfl) (by rw [MakeChecks.laidMetH_plain _ _ _ (by kernel_rfl)]; exact laid_met os)
theorem lifted (os : Os) (started : os.Started) (H : Type) (enc : TypeId × Value → H) (F : Stop.Interp) :
    ReturnsInHanded {} Tryz.checked os 7 .any ((OpenSpec.ofChange Rows.numberTicketsSpec).preRow enc Tryz.prog Tryz.f7 Rows.numberTicketsRow.domain false Rows.numberTicketsRow.laid) (((OpenSpec.ofChange Rows.numberTicketsSpec).at F).post enc Tryz.prog Tryz.f7 false true false false) := by
  refine returnsInHanded_of_row (C := Tryz.checked) (s := OpenSpec.ofChange Rows.numberTicketsSpec) own started (by kernel_rfl) Tryz.func7
    (witness_row_atRef (enc := enc) (C := Tryz.checked) false (laidWorld os) #[z2, .string ⟨#[]⟩] rfl (by kernel_rfl) (by kernel_rfl) (by kernel_rfl) (witness_row os enc)) ?_
  intro W base args ds gs before hval hW _ _ _ hL hO _
  exact contract H enc W base args ds gs before hval hW hL hO
theorem plain (f : FuncId) (fn : Func) (hf : Tryz.pinned.checked.prog.funcNamed "crux/cruxlaw01.NumberTickets" = some f) (hfn : Tryz.pinned.checked.prog.funcs[f]? = some fn) :
    true = Tryz.pinned.checked.prog.looks [] ∧ ∀ (j : Nat) t, fn.params[j]? = some t → Tryz.pinned.checked.prog.wantsStandIn t = false := by
  obtain rfl : f = 7 := Option.some.inj ((show Tryz.prog.funcNamed "crux/cruxlaw01.NumberTickets" = some 7 by kernel_rfl).symm.trans hf) |>.symm
  obtain rfl : fn = Tryz.f7 := (Option.some.inj (Tryz.func7.symm.trans hfn)).symm
  refine ⟨by kernel_rfl, fun j t ht => ?_⟩
  rw [Tryz.params7] at ht
  have : t = 69 ∨ t = 9 := by simpa using Array.mem_of_getElem? ht
  rcases this with rfl | rfl
  · exact (show Tryz.prog.wantsStandIn 69 = false by kernel_rfl)
  · exact (show Tryz.prog.wantsStandIn 9 = false by kernel_rfl)
end Go.Proofs.YtdaggbpeoldmeaaGreatDoor.tickets

