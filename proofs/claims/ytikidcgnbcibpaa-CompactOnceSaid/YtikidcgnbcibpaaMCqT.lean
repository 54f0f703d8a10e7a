import Derived.Test.YtikidcgnbcibpaaAvL3
import Derived.Test.YtikidcgnbcibpaaMCqK
import Derived.Test.YtikidcgnbcibpaaMCpK

set_option linter.unusedVariables false
set_option linter.unusedSimpArgs false

/- Compact: the laws' pieces. -/

set_option maxRecDepth 100000
namespace Go.Proofs.Ytikidcgnbcibpaa

open Go.Av
def p4_0 : AC :=
 (.reg [⟨(some 6), none, .mv (.c (.bool false))⟩])
def p4_1 : AC :=
 (.seq
  (.reg [⟨(some 15), none, .mv (.t 0)⟩,
    ⟨(some 16), none, .call 6 [(.t 15)]⟩,
    ⟨(some 17), none, .una .not (.t 16)⟩])
  (.cond (.t 17)
   (.seq
    (.reg [⟨(some 18), none, .call 7 []⟩,
      ⟨(some 6), none, .take 18⟩])
    .ret)
   .skip))
def p4_2 : AC :=
 (.reg [⟨(some 19), none, .mv (.t 0)⟩,
   ⟨(some 20), none, .mv (.t 1)⟩,
   ⟨(some 21), none, .mv (.t 2)⟩,
   ⟨(some 22), none, .call 12 [(.t 19), (.t 20), (.t 21)]⟩,
   ⟨(some 7), none, .take 22⟩])
def p4_3 : AC :=
 (.reg [⟨(some 23), none, .mv (.t 0)⟩,
   ⟨(some 24), none, .call 8 [(.t 23)]⟩,
   ⟨(some 8), none, .take 24⟩])
def p4_4 : AC :=
 (.reg [⟨(some 9), none, .mv (.c (.int .i64 0))⟩])
def p4_5 : AC :=
 (.reg [⟨(some 10), none, .mv (.c (.int .i64 0))⟩])
def p4_6 : AC :=
 (.seq
  (.reg [⟨(some 25), none, .mv (.t 10)⟩,
    ⟨(some 26), none, .mv (.t 0)⟩,
    ⟨(some 27), none, .len false (.t 26)⟩,
    ⟨(some 28), none, .bin .lss (.t 25) (.t 27)⟩])
  (.cond (.t 28)
   .skip
   (.exit 0)))
def p4_7 : AC :=
 (.reg [⟨(some 11), none, .alloc [(.int .i64 0), (.int .i64 0), (.int .i64 0), (.int .i64 0), (.int .i64 0), .nils]⟩])
def p4_8 : AC :=
 (.seq
  (.dreg [] [⟨(some 31), none, .mv (.t 9)⟩,
    ⟨(some 32), none, .mv (.t 7)⟩,
    ⟨(some 33), none, .len false (.t 32)⟩,
    ⟨(some 34), none, .bin .lss (.t 31) (.t 33)⟩,
    ⟨(some 35), none, .mv (.t 34)⟩,
    ⟨(some 36), (some (35, true)), .mv (.t 7)⟩,
    ⟨(some 37), (some (35, true)), .mv (.t 9)⟩,
    ⟨(some 38), (some (35, true)), .iaddr 6 (.t 36) (.t 37)⟩,
    ⟨(some 39), (some (35, true)), .faddr (.t 38) 0⟩,
    ⟨(some 40), (some (35, true)), .load none (.t 39)⟩,
    ⟨(some 41), (some (35, true)), .mv (.t 0)⟩,
    ⟨(some 42), (some (35, true)), .mv (.t 10)⟩,
    ⟨(some 43), (some (35, true)), .iaddr 6 (.t 41) (.t 42)⟩,
    ⟨(some 44), (some (35, true)), .faddr (.t 43) 0⟩,
    ⟨(some 45), (some (35, true)), .load none (.t 44)⟩,
    ⟨(some 46), (some (35, true)), .bin .eql (.t 40) (.t 45)⟩,
    ⟨(some 47), none, .pick (.t 35) (.t 46) (.c (.bool false))⟩,
    ⟨(some 48), none, .mv (.t 47)⟩,
    ⟨(some 49), (some (48, true)), .mv (.t 7)⟩,
    ⟨(some 50), (some (48, true)), .mv (.t 9)⟩,
    ⟨(some 51), (some (48, true)), .iaddr 6 (.t 49) (.t 50)⟩,
    ⟨(some 52), (some (48, true)), .faddr (.t 51) 1⟩,
    ⟨(some 53), (some (48, true)), .load none (.t 52)⟩,
    ⟨(some 54), (some (48, true)), .mv (.t 0)⟩,
    ⟨(some 55), (some (48, true)), .mv (.t 10)⟩,
    ⟨(some 56), (some (48, true)), .iaddr 6 (.t 54) (.t 55)⟩,
    ⟨(some 57), (some (48, true)), .faddr (.t 56) 1⟩,
    ⟨(some 58), (some (48, true)), .load none (.t 57)⟩,
    ⟨(some 59), (some (48, true)), .bin .eql (.t 53) (.t 58)⟩,
    ⟨(some 60), none, .pick (.t 48) (.t 59) (.c (.bool false))⟩,
    ⟨(some 61), none, .mv (.t 60)⟩,
    ⟨(some 62), (some (61, true)), .mv (.t 7)⟩,
    ⟨(some 63), (some (61, true)), .mv (.t 9)⟩,
    ⟨(some 64), (some (61, true)), .iaddr 6 (.t 62) (.t 63)⟩,
    ⟨(some 65), (some (61, true)), .faddr (.t 64) 2⟩,
    ⟨(some 66), (some (61, true)), .load none (.t 65)⟩,
    ⟨(some 67), (some (61, true)), .mv (.t 0)⟩,
    ⟨(some 68), (some (61, true)), .mv (.t 10)⟩,
    ⟨(some 69), (some (61, true)), .iaddr 6 (.t 67) (.t 68)⟩,
    ⟨(some 70), (some (61, true)), .faddr (.t 69) 2⟩,
    ⟨(some 71), (some (61, true)), .load none (.t 70)⟩,
    ⟨(some 72), (some (61, true)), .bin .eql (.t 66) (.t 71)⟩,
    ⟨(some 73), none, .pick (.t 61) (.t 72) (.c (.bool false))⟩,
    ⟨(some 74), none, .mv (.t 73)⟩,
    ⟨(some 75), (some (74, true)), .mv (.t 7)⟩,
    ⟨(some 76), (some (74, true)), .mv (.t 9)⟩,
    ⟨(some 77), (some (74, true)), .iaddr 6 (.t 75) (.t 76)⟩,
    ⟨(some 78), (some (74, true)), .faddr (.t 77) 3⟩,
    ⟨(some 79), (some (74, true)), .load none (.t 78)⟩,
    ⟨(some 80), (some (74, true)), .mv (.t 0)⟩,
    ⟨(some 81), (some (74, true)), .mv (.t 10)⟩,
    ⟨(some 82), (some (74, true)), .iaddr 6 (.t 80) (.t 81)⟩,
    ⟨(some 83), (some (74, true)), .faddr (.t 82) 3⟩,
    ⟨(some 84), (some (74, true)), .load none (.t 83)⟩,
    ⟨(some 85), (some (74, true)), .bin .eql (.t 79) (.t 84)⟩,
    ⟨(some 86), none, .pick (.t 74) (.t 85) (.c (.bool false))⟩,
    ⟨(some 87), none, .mv (.t 86)⟩,
    ⟨(some 88), (some (87, true)), .mv (.t 7)⟩,
    ⟨(some 89), (some (87, true)), .mv (.t 9)⟩,
    ⟨(some 90), (some (87, true)), .iaddr 6 (.t 88) (.t 89)⟩,
    ⟨(some 91), (some (87, true)), .faddr (.t 90) 4⟩,
    ⟨(some 92), (some (87, true)), .load none (.t 91)⟩,
    ⟨(some 93), (some (87, true)), .mv (.t 0)⟩,
    ⟨(some 94), (some (87, true)), .mv (.t 10)⟩,
    ⟨(some 95), (some (87, true)), .iaddr 6 (.t 93) (.t 94)⟩,
    ⟨(some 96), (some (87, true)), .faddr (.t 95) 4⟩,
    ⟨(some 97), (some (87, true)), .load none (.t 96)⟩,
    ⟨(some 98), (some (87, true)), .bin .eql (.t 92) (.t 97)⟩,
    ⟨(some 99), none, .pick (.t 87) (.t 98) (.c (.bool false))⟩,
    ⟨(some 100), none, .mv (.t 99)⟩,
    ⟨(some 101), (some (100, true)), .mv (.t 7)⟩,
    ⟨(some 102), (some (100, true)), .mv (.t 9)⟩,
    ⟨(some 103), (some (100, true)), .iaddr 6 (.t 101) (.t 102)⟩,
    ⟨(some 104), (some (100, true)), .faddr (.t 103) 5⟩,
    ⟨(some 105), (some (100, true)), .load none (.t 104)⟩,
    ⟨(some 106), (some (100, true)), .mv (.t 0)⟩,
    ⟨(some 107), (some (100, true)), .mv (.t 10)⟩,
    ⟨(some 108), (some (100, true)), .iaddr 6 (.t 106) (.t 107)⟩,
    ⟨(some 109), (some (100, true)), .faddr (.t 108) 5⟩,
    ⟨(some 110), (some (100, true)), .load none (.t 109)⟩,
    ⟨(some 111), (some (100, true)), .call 13 [(.t 105), (.t 110)]⟩,
    ⟨(some 112), none, .pick (.t 100) (.t 111) (.c (.bool false))⟩,
    ⟨(some 113), none, .mv (.t 112)⟩,
    ⟨(some 114), (some (113, true)), .mv (.t 7)⟩,
    ⟨(some 115), (some (113, true)), .mv (.t 9)⟩,
    ⟨(some 116), (some (113, true)), .iaddr 6 (.t 114) (.t 115)⟩,
    ⟨(some 117), (some (113, true)), .faddr (.t 116) 5⟩,
    ⟨(some 118), (some (113, true)), .load none (.t 117)⟩,
    ⟨(some 119), (some (113, true)), .len false (.t 118)⟩,
    ⟨(some 120), (some (113, true)), .bin .gtr (.t 119) (.c (.int .i64 0))⟩,
    ⟨(some 121), (some (113, true)), .mv (.t 120)⟩,
    ⟨(some 122), (some (121, false)), .mv (.t 0)⟩,
    ⟨(some 123), (some (121, false)), .mv (.t 10)⟩,
    ⟨(some 124), (some (121, false)), .iaddr 6 (.t 122) (.t 123)⟩,
    ⟨(some 125), (some (121, false)), .faddr (.t 124) 2⟩,
    ⟨(some 126), (some (121, false)), .load none (.t 125)⟩,
    ⟨(some 127), (some (121, false)), .bin .neq (.t 126) (.c (.int .i64 0))⟩,
    ⟨(some 128), (some (113, true)), .pick (.t 121) (.c (.bool true)) (.t 127)⟩,
    ⟨(some 129), none, .pick (.t 113) (.t 128) (.c (.bool false))⟩])
  (.cond (.t 129)
   (.reg [⟨(some 130), none, .mv (.t 7)⟩,
     ⟨(some 131), none, .mv (.t 9)⟩,
     ⟨(some 132), none, .iaddr 6 (.t 130) (.t 131)⟩,
     ⟨(some 133), none, .load (some 6) (.t 132)⟩,
     ⟨none, none, .store 6 (.t 11) (.t 133)⟩])
   .skip))
def p4_9 : AC :=
 (.reg [⟨(some 12), none, .mv (.c (.int .i64 0))⟩])
def p4_10 : AC :=
 (.reg [⟨(some 13), none, .mv (.c (.int .i64 0))⟩])
def p4_11 : AC :=
 (.seq
  (.reg [⟨(some 134), none, .mv (.t 13)⟩,
    ⟨(some 135), none, .mv (.t 0)⟩,
    ⟨(some 136), none, .mv (.t 10)⟩,
    ⟨(some 137), none, .iaddr 6 (.t 135) (.t 136)⟩,
    ⟨(some 138), none, .faddr (.t 137) 5⟩,
    ⟨(some 139), none, .load none (.t 138)⟩,
    ⟨(some 140), none, .len false (.t 139)⟩,
    ⟨(some 141), none, .bin .lss (.t 134) (.t 140)⟩])
  (.cond (.t 141)
   .skip
   (.exit 2)))
def p4_12 : AC :=
 (.reg [⟨(some 144), none, .mv (.t 0)⟩,
   ⟨(some 145), none, .mv (.t 10)⟩,
   ⟨(some 146), none, .iaddr 6 (.t 144) (.t 145)⟩,
   ⟨(some 147), none, .faddr (.t 146) 5⟩,
   ⟨(some 148), none, .load none (.t 147)⟩,
   ⟨(some 149), none, .mv (.t 13)⟩,
   ⟨(some 150), none, .iaddr 6 (.t 148) (.t 149)⟩,
   ⟨(some 151), none, .load (some 6) (.t 150)⟩,
   ⟨(some 14), none, .alloc [(.int .i64 0), (.int .i64 0), (.bool false), (.str (ByteArray.mk #[])), (.bool false), (.str (ByteArray.mk #[]))]⟩,
   ⟨none, none, .store 6 (.t 14) (.t 151)⟩])
def p4_13 : AC :=
 (.seq
  (.dreg [] [⟨(some 152), none, .mv (.t 12)⟩,
    ⟨(some 153), none, .faddr (.t 11) 5⟩,
    ⟨(some 154), none, .load none (.t 153)⟩,
    ⟨(some 155), none, .len false (.t 154)⟩,
    ⟨(some 156), none, .bin .lss (.t 152) (.t 155)⟩,
    ⟨(some 157), none, .mv (.t 156)⟩,
    ⟨(some 158), (some (157, true)), .faddr (.t 11) 5⟩,
    ⟨(some 159), (some (157, true)), .load none (.t 158)⟩,
    ⟨(some 160), (some (157, true)), .mv (.t 12)⟩,
    ⟨(some 161), (some (157, true)), .iaddr 6 (.t 159) (.t 160)⟩,
    ⟨(some 162), (some (157, true)), .load (some 6) (.t 161)⟩,
    ⟨(some 163), (some (157, true)), .load (some 6) (.t 14)⟩,
    ⟨(some 164), (some (157, true)), .eqs [1, 1, 0, 2, 0, 2] false (.t 162) (.t 163)⟩,
    ⟨(some 165), none, .pick (.t 157) (.t 164) (.c (.bool false))⟩])
  (.cond (.t 165)
   (.seq
    (.reg [⟨(some 166), none, .take 12⟩,
      ⟨(some 167), none, .bin .add (.t 166) (.c (.int .i64 1))⟩,
      ⟨(some 12), none, .take 167⟩])
    (.exit 3))
   .skip))
def p4_14 : AC :=
 (.cond (.t 190)
  (.seq
   (.reg [⟨(some 6), none, .mv (.c (.bool false))⟩])
   .ret)
  .skip)
def p4_15 : AC :=
 (.reg [⟨(some 142), none, .take 13⟩,
   ⟨(some 143), none, .bin .add (.t 142) (.c (.int .i64 1))⟩,
   ⟨(some 13), none, .take 143⟩])
def p4_16 : AC :=
 (.seq
  (.reg [⟨(some 191), none, .mv (.t 12)⟩,
    ⟨(some 192), none, .bin .gtr (.t 191) (.c (.int .i64 0))⟩,
    ⟨(some 193), none, .take 192⟩,
    ⟨(some 194), (some (193, false)), .mv (.t 0)⟩,
    ⟨(some 195), (some (193, false)), .mv (.t 10)⟩,
    ⟨(some 196), (some (193, false)), .iaddr 6 (.t 194) (.t 195)⟩,
    ⟨(some 197), (some (193, false)), .faddr (.t 196) 2⟩,
    ⟨(some 198), (some (193, false)), .load none (.t 197)⟩,
    ⟨(some 199), (some (193, false)), .bin .neq (.t 198) (.c (.int .i64 0))⟩,
    ⟨(some 200), none, .pick (.t 193) (.c (.bool true)) (.t 199)⟩])
  (.cond (.t 200)
   (.reg [⟨(some 201), none, .take 9⟩,
     ⟨(some 202), none, .bin .add (.t 201) (.c (.int .i64 1))⟩,
     ⟨(some 9), none, .take 202⟩])
   .skip))
def p4_17 : AC :=
 (.reg [⟨(some 29), none, .take 10⟩,
   ⟨(some 30), none, .bin .add (.t 29) (.c (.int .i64 1))⟩,
   ⟨(some 10), none, .take 30⟩])
def p4_18 : AC :=
 (.seq
  (.reg [⟨(some 203), none, .mv (.t 9)⟩,
    ⟨(some 204), none, .mv (.t 7)⟩,
    ⟨(some 205), none, .len false (.t 204)⟩,
    ⟨(some 206), none, .bin .eql (.t 203) (.t 205)⟩,
    ⟨(some 207), none, .take 206⟩,
    ⟨(some 208), (some (207, true)), .call 7 []⟩,
    ⟨(some 209), none, .pick (.t 207) (.t 208) (.c (.bool false))⟩,
    ⟨(some 6), none, .take 209⟩])
  .ret)
def p5_0 : AC :=
 (.reg [⟨(some 6), none, .mv (.c (.bool false))⟩])
def p5_1 : AC :=
 (.seq
  (.reg [⟨(some 17), none, .mv (.t 0)⟩,
    ⟨(some 18), none, .call 6 [(.t 17)]⟩,
    ⟨(some 19), none, .una .not (.t 18)⟩])
  (.cond (.t 19)
   (.seq
    (.reg [⟨(some 20), none, .call 7 []⟩,
      ⟨(some 6), none, .take 20⟩])
    .ret)
   .skip))
def p5_2 : AC :=
 (.reg [⟨(some 7), none, .mv (.c (.int .i64 0))⟩,
   ⟨(some 8), none, .mv (.c (.bool false))⟩])
def p5_3 : AC :=
 (.seq
  (.reg [⟨(some 9), none, .mv (.c (.int .i64 0))⟩])
  (.block 0
   (.loop
    (.seq
     (.seq
      (.reg [⟨(some 21), none, .mv (.t 9)⟩,
        ⟨(some 22), none, .mv (.t 0)⟩,
        ⟨(some 23), none, .len false (.t 22)⟩,
        ⟨(some 24), none, .bin .lss (.t 21) (.t 23)⟩])
      (.cond (.t 24)
       .skip
       (.exit 0)))
     (.seq
      (.block 1
       (.seq
        (.seq
         (.reg [⟨(some 27), none, .mv (.t 0)⟩,
           ⟨(some 28), none, .mv (.t 9)⟩,
           ⟨(some 29), none, .iaddr 6 (.t 27) (.t 28)⟩,
           ⟨(some 30), none, .load (some 6) (.t 29)⟩,
           ⟨(some 31), none, .call 14 [(.t 30)]⟩,
           ⟨(some 32), none, .bin .neq (.t 31) (.c (.int .i64 0))⟩,
           ⟨(some 33), none, .take 32⟩,
           ⟨(some 34), (some (33, false)), .mv (.t 0)⟩,
           ⟨(some 35), (some (33, false)), .mv (.t 9)⟩,
           ⟨(some 36), (some (33, false)), .iaddr 6 (.t 34) (.t 35)⟩,
           ⟨(some 37), (some (33, false)), .faddr (.t 36) 0⟩,
           ⟨(some 38), (some (33, false)), .load none (.t 37)⟩,
           ⟨(some 39), (some (33, false)), .mv (.t 7)⟩,
           ⟨(some 40), (some (33, false)), .bin .lss (.t 38) (.t 39)⟩,
           ⟨(some 41), none, .pick (.t 33) (.c (.bool true)) (.t 40)⟩])
         (.cond (.t 41)
          (.seq
           (.reg [⟨(some 42), none, .call 7 []⟩,
             ⟨(some 6), none, .take 42⟩])
           .ret)
          .skip))
        (.seq
         (.reg [⟨(some 43), none, .mv (.t 0)⟩,
           ⟨(some 44), none, .mv (.t 9)⟩,
           ⟨(some 45), none, .iaddr 6 (.t 43) (.t 44)⟩,
           ⟨(some 46), none, .load (some 6) (.t 45)⟩,
           ⟨(some 47), none, .call 15 [(.t 46)]⟩,
           ⟨(some 7), none, .take 47⟩])
         (.seq
          (.reg [⟨(some 10), none, .mv (.c (.int .i64 0))⟩])
          (.block 2
           (.loop
            (.seq
             (.seq
              (.reg [⟨(some 48), none, .mv (.t 10)⟩,
                ⟨(some 49), none, .mv (.t 0)⟩,
                ⟨(some 50), none, .mv (.t 9)⟩,
                ⟨(some 51), none, .iaddr 6 (.t 49) (.t 50)⟩,
                ⟨(some 52), none, .faddr (.t 51) 5⟩,
                ⟨(some 53), none, .load none (.t 52)⟩,
                ⟨(some 54), none, .len false (.t 53)⟩,
                ⟨(some 55), none, .bin .lss (.t 48) (.t 54)⟩])
              (.cond (.t 55)
               .skip
               (.exit 2)))
             (.seq
              (.block 3
               (.reg [⟨(some 58), none, .take 8⟩,
                 ⟨(some 59), none, .take 58⟩,
                 ⟨(some 60), (some (59, false)), .mv (.t 0)⟩,
                 ⟨(some 61), (some (59, false)), .mv (.t 9)⟩,
                 ⟨(some 62), (some (59, false)), .iaddr 6 (.t 60) (.t 61)⟩,
                 ⟨(some 63), (some (59, false)), .faddr (.t 62) 5⟩,
                 ⟨(some 64), (some (59, false)), .load none (.t 63)⟩,
                 ⟨(some 65), (some (59, false)), .mv (.t 10)⟩,
                 ⟨(some 66), (some (59, false)), .iaddr 6 (.t 64) (.t 65)⟩,
                 ⟨(some 67), (some (59, false)), .faddr (.t 66) 4⟩,
                 ⟨(some 68), (some (59, false)), .load none (.t 67)⟩,
                 ⟨(some 69), none, .pick (.t 59) (.c (.bool true)) (.t 68)⟩,
                 ⟨(some 8), none, .take 69⟩]))
              (.reg [⟨(some 56), none, .take 10⟩,
                ⟨(some 57), none, .bin .add (.t 56) (.c (.int .i64 1))⟩,
                ⟨(some 10), none, .take 57⟩])))))))))
      (.reg [⟨(some 25), none, .take 9⟩,
        ⟨(some 26), none, .bin .add (.t 25) (.c (.int .i64 1))⟩,
        ⟨(some 9), none, .take 26⟩]))))))
def p5_4 : AC :=
 (.reg [⟨(some 70), none, .mv (.t 0)⟩,
   ⟨(some 71), none, .mv (.t 1)⟩,
   ⟨(some 72), none, .mv (.t 2)⟩,
   ⟨(some 73), none, .call 12 [(.t 70), (.t 71), (.t 72)]⟩,
   ⟨(some 11), none, .take 73⟩])
def p5_5 : AC :=
 (.reg [⟨(some 12), none, .mv (.c .nils)⟩])
def p5_6 : AC :=
 (.seq
  (.reg [⟨(some 13), none, .mv (.c (.int .i64 0))⟩])
  (.block 4
   (.loop
    (.seq
     (.seq
      (.reg [⟨(some 74), none, .mv (.t 13)⟩,
        ⟨(some 75), none, .mv (.t 11)⟩,
        ⟨(some 76), none, .len false (.t 75)⟩,
        ⟨(some 77), none, .bin .lss (.t 74) (.t 76)⟩])
      (.cond (.t 77)
       .skip
       (.exit 4)))
     (.seq
      (.block 5
       (.seq
        (.reg [⟨(some 14), none, .mv (.c (.int .i64 0))⟩])
        (.block 6
         (.loop
          (.seq
           (.seq
            (.reg [⟨(some 80), none, .mv (.t 14)⟩,
              ⟨(some 81), none, .mv (.t 11)⟩,
              ⟨(some 82), none, .mv (.t 13)⟩,
              ⟨(some 83), none, .iaddr 6 (.t 81) (.t 82)⟩,
              ⟨(some 84), none, .faddr (.t 83) 5⟩,
              ⟨(some 85), none, .load none (.t 84)⟩,
              ⟨(some 86), none, .len false (.t 85)⟩,
              ⟨(some 87), none, .bin .lss (.t 80) (.t 86)⟩])
            (.cond (.t 87)
             .skip
             (.exit 6)))
           (.seq
            (.block 7
             (.seq
              (.reg [⟨(some 90), none, .mv (.t 11)⟩,
                ⟨(some 91), none, .mv (.t 13)⟩,
                ⟨(some 92), none, .iaddr 6 (.t 90) (.t 91)⟩,
                ⟨(some 93), none, .faddr (.t 92) 5⟩,
                ⟨(some 94), none, .load none (.t 93)⟩,
                ⟨(some 95), none, .mv (.t 14)⟩,
                ⟨(some 96), none, .iaddr 6 (.t 94) (.t 95)⟩,
                ⟨(some 97), none, .load (some 6) (.t 96)⟩,
                ⟨(some 15), none, .alloc [(.int .i64 0), (.int .i64 0), (.bool false), (.str (ByteArray.mk #[])), (.bool false), (.str (ByteArray.mk #[]))]⟩,
                ⟨none, none, .store 6 (.t 15) (.t 97)⟩])
              (.seq
               (.seq
                (.reg [⟨(some 16), none, .mv (.c (.int .i64 0))⟩])
                (.block 8
                 (.loop
                  (.seq
                   (.seq
                    (.reg [⟨(some 98), none, .mv (.t 16)⟩,
                      ⟨(some 99), none, .mv (.t 12)⟩,
                      ⟨(some 100), none, .len false (.t 99)⟩,
                      ⟨(some 101), none, .bin .lss (.t 98) (.t 100)⟩,
                      ⟨(some 102), none, .take 101⟩,
                      ⟨(some 103), (some (102, true)), .faddr (.t 15) 2⟩,
                      ⟨(some 104), (some (102, true)), .load none (.t 103)⟩,
                      ⟨(some 105), none, .pick (.t 102) (.t 104) (.c (.bool false))⟩])
                    (.cond (.t 105)
                     .skip
                     (.exit 8)))
                   (.seq
                    (.block 9
                     (.seq
                      (.dreg [] [⟨(some 108), none, .mv (.t 12)⟩,
                        ⟨(some 109), none, .mv (.t 16)⟩,
                        ⟨(some 110), none, .iaddr 1 (.t 108) (.t 109)⟩,
                        ⟨(some 111), none, .load none (.t 110)⟩,
                        ⟨(some 112), none, .faddr (.t 15) 3⟩,
                        ⟨(some 113), none, .load none (.t 112)⟩,
                        ⟨(some 114), none, .bin .eql (.t 111) (.t 113)⟩])
                      (.cond (.t 114)
                       (.seq
                        (.reg [⟨(some 6), none, .mv (.c (.bool false))⟩])
                        .ret)
                       .skip)))
                    (.reg [⟨(some 106), none, .take 16⟩,
                      ⟨(some 107), none, .bin .add (.t 106) (.c (.int .i64 1))⟩,
                      ⟨(some 16), none, .take 107⟩]))))))
               (.seq
                (.reg [⟨(some 115), none, .faddr (.t 15) 2⟩,
                  ⟨(some 116), none, .load none (.t 115)⟩])
                (.cond (.t 116)
                 (.reg [⟨(some 117), none, .take 12⟩,
                   ⟨(some 118), none, .faddr (.t 15) 3⟩,
                   ⟨(some 119), none, .load none (.t 118)⟩,
                   ⟨(some 120), none, .bsl 1 1 [(.str (ByteArray.mk #[]))] [(0, (.t 119))]⟩,
                   ⟨(some 121), none, .app 1 16 117 (.t 120)⟩,
                   ⟨(some 12), none, .take 121⟩])
                 .skip)))))
            (.reg [⟨(some 88), none, .take 14⟩,
              ⟨(some 89), none, .bin .add (.t 88) (.c (.int .i64 1))⟩,
              ⟨(some 14), none, .take 89⟩])))))))
      (.reg [⟨(some 78), none, .take 13⟩,
        ⟨(some 79), none, .bin .add (.t 78) (.c (.int .i64 1))⟩,
        ⟨(some 13), none, .take 79⟩]))))))
def p5_7 : AC :=
 .ret
def p5_l : AC :=
 (.loop
    (.seq
     (.seq
      (.reg [⟨(some 21), none, .mv (.t 9)⟩,
        ⟨(some 22), none, .mv (.t 0)⟩,
        ⟨(some 23), none, .len false (.t 22)⟩,
        ⟨(some 24), none, .bin .lss (.t 21) (.t 23)⟩])
      (.cond (.t 24)
       .skip
       (.exit 0)))
     (.seq
      (.block 1
       (.seq
        (.seq
         (.reg [⟨(some 27), none, .mv (.t 0)⟩,
           ⟨(some 28), none, .mv (.t 9)⟩,
           ⟨(some 29), none, .iaddr 6 (.t 27) (.t 28)⟩,
           ⟨(some 30), none, .load (some 6) (.t 29)⟩,
           ⟨(some 31), none, .call 14 [(.t 30)]⟩,
           ⟨(some 32), none, .bin .neq (.t 31) (.c (.int .i64 0))⟩,
           ⟨(some 33), none, .take 32⟩,
           ⟨(some 34), (some (33, false)), .mv (.t 0)⟩,
           ⟨(some 35), (some (33, false)), .mv (.t 9)⟩,
           ⟨(some 36), (some (33, false)), .iaddr 6 (.t 34) (.t 35)⟩,
           ⟨(some 37), (some (33, false)), .faddr (.t 36) 0⟩,
           ⟨(some 38), (some (33, false)), .load none (.t 37)⟩,
           ⟨(some 39), (some (33, false)), .mv (.t 7)⟩,
           ⟨(some 40), (some (33, false)), .bin .lss (.t 38) (.t 39)⟩,
           ⟨(some 41), none, .pick (.t 33) (.c (.bool true)) (.t 40)⟩])
         (.cond (.t 41)
          (.seq
           (.reg [⟨(some 42), none, .call 7 []⟩,
             ⟨(some 6), none, .take 42⟩])
           .ret)
          .skip))
        (.seq
         (.reg [⟨(some 43), none, .mv (.t 0)⟩,
           ⟨(some 44), none, .mv (.t 9)⟩,
           ⟨(some 45), none, .iaddr 6 (.t 43) (.t 44)⟩,
           ⟨(some 46), none, .load (some 6) (.t 45)⟩,
           ⟨(some 47), none, .call 15 [(.t 46)]⟩,
           ⟨(some 7), none, .take 47⟩])
         (.seq
          (.reg [⟨(some 10), none, .mv (.c (.int .i64 0))⟩])
          (.block 2
           (.loop
            (.seq
             (.seq
              (.reg [⟨(some 48), none, .mv (.t 10)⟩,
                ⟨(some 49), none, .mv (.t 0)⟩,
                ⟨(some 50), none, .mv (.t 9)⟩,
                ⟨(some 51), none, .iaddr 6 (.t 49) (.t 50)⟩,
                ⟨(some 52), none, .faddr (.t 51) 5⟩,
                ⟨(some 53), none, .load none (.t 52)⟩,
                ⟨(some 54), none, .len false (.t 53)⟩,
                ⟨(some 55), none, .bin .lss (.t 48) (.t 54)⟩])
              (.cond (.t 55)
               .skip
               (.exit 2)))
             (.seq
              (.block 3
               (.reg [⟨(some 58), none, .take 8⟩,
                 ⟨(some 59), none, .take 58⟩,
                 ⟨(some 60), (some (59, false)), .mv (.t 0)⟩,
                 ⟨(some 61), (some (59, false)), .mv (.t 9)⟩,
                 ⟨(some 62), (some (59, false)), .iaddr 6 (.t 60) (.t 61)⟩,
                 ⟨(some 63), (some (59, false)), .faddr (.t 62) 5⟩,
                 ⟨(some 64), (some (59, false)), .load none (.t 63)⟩,
                 ⟨(some 65), (some (59, false)), .mv (.t 10)⟩,
                 ⟨(some 66), (some (59, false)), .iaddr 6 (.t 64) (.t 65)⟩,
                 ⟨(some 67), (some (59, false)), .faddr (.t 66) 4⟩,
                 ⟨(some 68), (some (59, false)), .load none (.t 67)⟩,
                 ⟨(some 69), none, .pick (.t 59) (.c (.bool true)) (.t 68)⟩,
                 ⟨(some 8), none, .take 69⟩]))
              (.reg [⟨(some 56), none, .take 10⟩,
                ⟨(some 57), none, .bin .add (.t 56) (.c (.int .i64 1))⟩,
                ⟨(some 10), none, .take 57⟩])))))))))
      (.reg [⟨(some 25), none, .take 9⟩,
        ⟨(some 26), none, .bin .add (.t 25) (.c (.int .i64 1))⟩,
        ⟨(some 9), none, .take 26⟩]))))
end Go.Proofs.Ytikidcgnbcibpaa

/- Compact: from a raw walk to the layer's pieces, and back. -/


set_option linter.unusedSimpArgs false
set_option linter.unusedVariables false
set_option maxRecDepth 100000
set_option maxHeartbeats 4000000
namespace Go.Proofs.Ytikidcgnbcibpaa
open Go.RowKit
open Go.Av Go.Cp
def g0 (mu : Mem) (w : World) : Gh := { mu := mu, x := fun _ => none, bx := fun _ => none, okx := fun b => b < w.heap.size → Tc.none.ar b, okb := fun b => b < w.heap.size → TB Tc.none b }
theorem slots_of {g : Gh} {w : World} {a : Act} : ∀ {sl : List (Nat × LV)}, (∀ p ∈ sl, RepL g w p.1 p.2 (a.tmps.getD p.1 Go.undef)) → ∀ s, RepL g w s (lk sl s) (a.tmps.getD s Go.undef)
  | [], _, s => .undef _
  | (t, v) :: r, h, s => by
    by_cases e : t = s
    · subst e; rw [lk_cons_same]; exact h (t, v) (by simp)
    · rw [lk_cons_other _ _ e]; exact slots_of (fun p hp => h p (by simp [hp])) s
theorem sim_start {mu : Mem} {w : World} (hm : MemOK mu w) {a : Act} {n : Nat} (hs : a.tmps.size = n) (hd : a.defers = []) {sl : List (Nat × LV)} (h : ∀ p ∈ sl, RepL (g0 mu w) w p.1 p.2 (a.tmps.getD p.1 Go.undef)) :
    Sim w mu Tc.none (g0 mu w) { n := n, sl := sl, bx := [], hp := fun _ => none } a w := by
  constructor
  · exact hs
  · exact hd
  · exact slots_of h
  · intro s c e; simp [lkb] at e
  · intro s s' b e; simp [g0] at e
  · intro b c e; simp at e
  · exact hm
  · intro b j hb _; rfl
  · exact Mem.le_refl _
  · exact Ext.refl _ _
  · rfl
  · intro b p e; simp [g0] at e
  · intro s b e; simp [g0] at e
  · intro s b p e; simp [g0] at e
  · rfl
  · intro s b hb; cases hb
theorem end_true {fn : Func} {rs : List AR} (hr : compRes Try.prog fn.results.toList = some rs) (hnd : (arSlots rs).Nodup) {w0 w3 : World} (hx : Ext (fun _ => False) w0 w3) {mu : Mem} {n : Nat} {e : Exit} {a : Act} {w : World} (hp : Post w3 mu Tc.none n (Done rs (.sv (.bool true))) e a w) : bodyPost Try.prog fn (LawP w0) e a w := by
  have fin : ∀ g' st', Sim w3 mu Tc.none g' st' a w → RvIs st' rs (.sv (.bool true)) → a.defers = [] ∧ ∃ v, (results fn a.tmps).run Try.prog w = .ok v w ∧ LawP w0 (.returned v) w := by
    intro g' st' hs hq
    obtain ⟨us, q1, q2⟩ := ret_rep hs hr hnd hq
    refine ⟨hs.defers, _, results_list fn a.tmps q1, ?_, hx.trans (hs.ext.mono (fun k hk => by rcases hk with ⟨s, hs⟩ | hk; cases hs; exact hk))⟩
    obtain ⟨gx, hrep, _⟩ := q2
    have h : Rep g'.mu (.bool true) _ := hrep
    rw [Rep.inv_bool h]
  cases e with
  | normal => obtain ⟨g', st', q1, q2, q3⟩ := hp; exact fin g' st' q1 q3
  | ret => obtain ⟨g', st', q1, q2, q3⟩ := hp; exact fin g' st' q1 q3
  | exit id => obtain ⟨g', st', q1, q2, q3⟩ := hp; exact q3.elim
  | goto l => exact hp.elim
  | panic ch => exact hp.elim
  | outgrown => exact hp.elim
theorem SW.wk {w0 : World} {mu0 : Mem} {n : Nat} {c : Code} {Q : AEx → St → Prop} {st : St} (st' : St) (hw : Wk st st') (h : SW Try.prog w0 mu0 n c Q st') : SW Try.prog w0 mu0 n c Q st := fun g a w hs hn => h g a w (hs.wk hw) (hw.1.trans hn)
theorem awake_pure : Pure Try.prog 7 [] (.sv (.bool true)) := by
  refine pure_true fun mu w vs hm hr => ?_
  match vs, hr.1 with
  | [], _ => exact awake_raw w
def eP (x : List Rec × List Rec) : List SV := [.sl 6 (RcL x.1), .sl 6 (RcL x.2)]
theorem eP_inj : ∀ a b, eP a = eP b → a = b := fun a b h => by
  obtain ⟨a1, a2⟩ := a
  obtain ⟨b1, b2⟩ := b
  simp [eP] at h
  obtain ⟨h1, h2⟩ := h
  rw [RcL_inj _ _ h1, RcL_inj _ _ h2]
def eU (x : Unit) : List SV := []
noncomputable def RS : Orc := { p := fun f l => match f with
    | 7 => row eU (fun _ => (True, .sv (.bool true))) l
    | 13 => row eP (fun x => (x.1.length ≤ 50000 ∧ x.2.length ≤ 50000, .sv (.bool (decide (partN x.1 0 x.2 = x.1.length))))) l
    | _ => none }
theorem RS_ok : RS.ok Try.prog := by
  refine ⟨fun f l c rv h hc => ?_, fun _ _ _ _ _ _ h => (by cases h), fun _ _ _ _ h => (by cases h), fun _ h => (by cases h), fun _ _ _ _ _ _ h => (by cases h), fun _ _ _ _ _ _ _ h => (by cases h)⟩
  simp only [RS] at h
  split at h
  · exact row_ok h hc (fun _ _ => awake_pure)
  · exact row_ok h hc (fun x hx => part_pure x.1 x.2 hx.1 hx.2)
  · cases h
theorem RS_7 : RS.p 7 [] = some (True, .sv (.bool true)) := row_eq (enc := eU) (fun _ _ _ => rfl) _ ()
theorem RS_13 (x y : List Rec) : RS.p 13 [.sl 6 (RcL x), .sl 6 (RcL y)] = some (x.length ≤ 50000 ∧ y.length ≤ 50000, .sv (.bool (decide (partN x 0 y = x.length)))) := row_eq eP_inj _ (x, y)
theorem RS_13u (v : SV) : RS.p 13 [.undef, v] = none := by
  cases h : RS.p 13 [.undef, v] with
  | none => rfl
  | some y =>
    obtain ⟨a, h1, _⟩ := row_some (show row eP _ _ = some y from h)
    simp [eP] at h1
end Go.Proofs.Ytikidcgnbcibpaa

/- Compact: batch.Check and what it reaches (turned from the seat of Wire and Segment). -/



set_option linter.unusedSimpArgs false
set_option linter.unusedVariables false
set_option maxRecDepth 100000
set_option maxHeartbeats 4000000
namespace Go.Proofs.Ytikidcgnbcibpaa.Bc

open Go.Av Go.Cp
theorem acc10 {acc : List Nat} {v u : Nat} (hu : u < 18446744073709551616) (hacc : acc ++ layN v = layN u) : acc.length + 1 ≤ 10 := by
  have h1 := congrArg List.length hacc
  have h2 := layN_pos v
  have h3 := layN_le10 hu
  simp at h1
  omega
theorem lay_pure (u : Nat) (hu : u < 18446744073709551616) : Pure Try.prog 36 [.int .u64 u] (.own 1 (bs (layN u))) := by
  refine pure_go R0_ok Try.func36 Try.ntmps36 comp36 cres36 (by decide) (by simp) ?_
  simp [ac36, ar36]
  refine awpR_loop (α := Nat × List Nat) (fun p => p.1 < 18446744073709551616 ∧ p.2 ++ layN p.1 = layN u) (fun p => { n := 19, sl := [(0, .sv (.int .u64 p.1)), (3, .own 1 (bs p.2))], bx := [], hp := fun _ => none })
    (fun p => p.1) (u, []) (by simp [hu]) (by simp) ?_
  rintro ⟨v, acc⟩ ⟨hv, hacc⟩
  simp only at hv hacc
  have hlen := acc10 hu hacc
  by_cases h : v < 128
  · have h1 : ¬ (127 : Int) < v := by omega
    have h2 : (v : Int) ≤ 127 := by omega
    rw [layN_small h] at hacc
    simp [h1, h2, w8_nat, ← hacc, bs_append]
    refine ⟨by omega, ?_⟩
    rw [Int.emod_eq_of_lt (by omega) (by omega)]; rfl
  · have h1 : (127 : Int) < v := by omega
    have h2 : ¬ (v : Int) ≤ 127 := by omega
    rw [layN_big h] at hacc
    simp only [awpR_seq, awpR_reg, awpR_cond, awpR_block]
    simp [h1, h2, w8_or128]
    refine ⟨by omega, v / 128, acc ++ [v % 128 + 128], ⟨by omega, by simpa using hacc⟩, by omega, fdiv_nat v 128, by simp [bs_append]; rfl⟩
theorem zigzag_pure (n : Int) (h0 : -9223372036854775808 ≤ n) (h1 : n < 9223372036854775808) : Pure Try.prog 37 [.int .i64 n] (.sv (.int .u64 (zig n))) := by
  refine pure_go R0_ok Try.func37 Try.ntmps37 comp37 cres37 (by decide) (by simp) ?_
  simp [ac37, ar37]
  exact zig_xor h0 h1
def I64 (n : Int) : Prop := -9223372036854775808 ≤ n ∧ n < 9223372036854775808
def U64 (n : Int) : Prop := 0 ≤ n ∧ n < 18446744073709551616
theorem u64_zig {n : Int} (h : I64 n) : U64 (zig n : Int) := ⟨by omega, by have := zig_lt h.1 h.2; omega⟩
def bok (b : Bat) : Prop := I64 b.ba ∧ I64 b.co ∧ I64 b.pr ∧ I64 b.ep ∧ I64 b.sq
def R1 : Orc := { p := fun f l => match f, l with
  | 37, [.int .i64 n] => some (I64 n, .sv (.int .u64 (zig n)))
  | 36, [.int .u64 u] => some (U64 u, .own 1 (bs (layN u.toNat)))
  | _, _ => none }
theorem R1_ok : R1.ok Try.prog := by
  refine ⟨fun f l c rv h hc => ?_, fun _ _ _ _ _ _ h => (by cases h), fun _ _ _ _ h => (by cases h), fun _ h => (by cases h), fun _ _ _ _ _ _ h => (by cases h), fun _ _ _ _ _ _ _ h => (by cases h)⟩
  simp only [R1] at h
  split at h <;> cases h
  · exact zigzag_pure _ hc.1 hc.2
  · obtain ⟨h0, h1⟩ := hc
    obtain ⟨u, rfl⟩ := Int.eq_ofNat_of_zero_le h0
    exact lay_pure u (by omega)
theorem put_pure (n : Int) (h : I64 n) : Pure Try.prog 33 [.int .i64 n] (.own 1 (bs (layN (zig n)))) := by
  refine pure_go R1_ok Try.func33 Try.ntmps33 comp33 cres33 (by decide) (by simp) ?_
  simp [ac33, ar33, R1, h, u64_zig h]
def bytesNat (s : ByteArray) : List Nat := s.data.toList.map UInt8.toNat
theorem bytesV_eq (l : List UInt8) : bytesV l = bs (l.map UInt8.toNat) := by simp [bytesV, bs]
def R3 : Orc := { p := fun f l => match f, l with
  | 33, [.int .i64 n] => some (I64 n, .own 1 (bs (layN (zig n))))
  | _, _ => none }
theorem R3_ok : R3.ok Try.prog := by
  refine ⟨fun f l c rv h hc => ?_, fun _ _ _ _ _ _ h => (by cases h), fun _ _ _ _ h => (by cases h), fun _ h => (by cases h), fun _ _ _ _ _ _ h => (by cases h), fun _ _ _ _ _ _ _ h => (by cases h)⟩
  simp only [R3] at h
  split at h <;> cases h
  exact put_pure _ hc
theorem text_pure (s : ByteArray) (h : s.size ≤ 140737488355000) : Pure Try.prog 38 [.str s] (.own 1 (bs (layN (zig s.size) ++ bytesNat s))) := by
  refine pure_go R3_ok Try.func38 Try.ntmps38 comp38 cres38 (by decide) (by simp) ?_
  simp [ac38, ar38, R3, I64]
  have h1 := layN_le10 (u := zig s.size) (zig_lt (by omega) (by omega))
  refine ⟨⟨by omega, by omega⟩, ?_⟩
  rw [bytesV_eq, bs_append]; rfl
def isE (s : ByteArray) : Bool := decide (s.toList = [])
def recE (r : Rec) : Int :=
  if r.dl < 0 ∨ 32 ≤ r.dl ∨ r.tm < 0 ∨ 1099511627776 < r.tm then 11
  else if 64 < (r.key.size : Int) ∨ 512 < (r.val.size : Int) then 5
  else if (!r.kd && (!isE r.key || r.dd)) || (r.dd && !isE r.val) then 4
  else 0
theorem check_pure (r : Rec) : Pure Try.prog 26 [r.sv] (.sv (.int .i64 (recE r))) := by
  refine pure_go R0_ok Try.func26 Try.ntmps26 comp26 cres26 (by decide) (by simp) ?_
  obtain ⟨dl, tm, kd, key, dd, val⟩ := r
  simp only [Rec.sv, Rec.cells, recE, isE]
  by_cases h1 : dl < 0
  · simp [ac26, ar26, h1]
  by_cases h2 : 32 ≤ dl
  · simp [ac26, ar26, h1, h2]
  by_cases h3 : tm < 0
  · simp [ac26, ar26, h1, h2, h3]
  by_cases h4 : 1099511627776 < tm
  · simp [ac26, ar26, h1, h2, h3, h4]
  by_cases h5 : 64 < (key.size : Int)
  · simp [ac26, ar26, h1, h2, h3, h4, h5]
  by_cases h6 : 512 < (val.size : Int)
  · simp [ac26, ar26, h1, h2, h3, h4, h5, h6]
  by_cases h7 : key.toList = []
  · by_cases h8 : val.toList = []
    · cases kd <;> cases dd <;> simp [ac26, ar26, h1, h2, h3, h4, h5, h6, h7, h8]
    · cases kd <;> cases dd <;> simp [ac26, ar26, h1, h2, h3, h4, h5, h6, h7, h8]
  · by_cases h8 : val.toList = []
    · cases kd <;> cases dd <;> simp [ac26, ar26, h1, h2, h3, h4, h5, h6, h7, h8]
    · cases kd <;> cases dd <;> simp [ac26, ar26, h1, h2, h3, h4, h5, h6, h7, h8]
def recP (r : Rec) : List Nat := ((if r.kd then 1 else 0) + (if r.dd then 2 else 0)) :: (layN (zig r.dl) ++ layN (zig r.tm)) ++ (if r.kd then layN (zig r.key.size) ++ bytesNat r.key else []) ++ (if r.dd then [] else layN (zig r.val.size) ++ bytesNat r.val)
def RP : Orc := { p := fun f l => match f, l with
    | 33, [.int .i64 n] => some (I64 n, .own 1 (bs (layN (zig n))))
    | 38, [.str s] => some (s.size ≤ 140737488355000, .own 1 (bs (layN (zig s.size) ++ bytesNat s)))
    | 26, [.agg [.int .i64 dl, .int .i64 tm, .bool kd, .str key, .bool dd, .str val]] => some (True, .sv (.int .i64 (recE ⟨dl, tm, kd, key, dd, val⟩)))
    | _, _ => none }
theorem RP_ok : RP.ok Try.prog := by
  refine ⟨fun f l c rv h hc => ?_, fun _ _ _ _ _ _ h => (by cases h), fun _ _ _ _ h => (by cases h), fun _ h => (by cases h), fun _ _ _ _ _ _ h => (by cases h), fun _ _ _ _ _ _ _ h => (by cases h)⟩
  simp only [RP] at h
  split at h <;> cases h
  · exact put_pure _ hc
  · exact text_pure _ hc
  · exact check_pure ⟨_, _, _, _, _, _⟩
@[simp] theorem RP_33 (n : Int) : RP.p 33 [.int .i64 n] = some (I64 n, .own 1 (bs (layN (zig n)))) := rfl
@[simp] theorem RP_38 (s : ByteArray) : RP.p 38 [.str s] = some (s.size ≤ 140737488355000, .own 1 (bs (layN (zig s.size) ++ bytesNat s))) := rfl
@[simp] theorem RP_26 (dl tm kd key dd val) : RP.p 26 [.agg [.int .i64 dl, .int .i64 tm, .bool kd, .str key, .bool dd, .str val]] = some (True, .sv (.int .i64 (recE ⟨dl, tm, kd, key, dd, val⟩))) := rfl
theorem recE_small {r : Rec} (h : recE r = 0) : 0 ≤ r.dl ∧ r.dl < 32 ∧ 0 ≤ r.tm ∧ r.tm ≤ 1099511627776 ∧ r.key.size ≤ 64 ∧ r.val.size ≤ 512 := by
  unfold recE at h
  split at h
  · cases h
  · split at h
    · cases h
    · omega
theorem bytesNat_length (s : ByteArray) : (bytesNat s).length = s.size := by simp [bytesNat]
def putR (r : Rec) : List Nat := if recE r = 0 then recP r else []
theorem put_rec (r : Rec) : Pure Try.prog 34 [r.sv] (.tup [.own 1 (bs (putR r)), .sv (.int .i64 (recE r))]) := by
  refine pure_go RP_ok Try.func34 Try.ntmps34 comp34 cres34 (by decide) (by simp) ?_
  by_cases h : recE r = 0
  · obtain ⟨a1, a2, a3, a4, a5, a6⟩ := recE_small h
    rw [putR, if_pos h, h]
    obtain ⟨dl, tm, kd, key, dd, val⟩ := r
    simp only at a1 a2 a3 a4 a5 a6
    have i1 : I64 dl := ⟨by omega, by omega⟩
    have i2 : I64 tm := ⟨by omega, by omega⟩
    have l1 := layN_le10 (zig_lt i1.1 i1.2)
    have l2 := layN_le10 (zig_lt i2.1 i2.2)
    have l3 := layN_le10 (u := zig key.size) (zig_lt (by omega) (by omega))
    have l4 := layN_le10 (u := zig val.size) (zig_lt (by omega) (by omega))
    have k1 : key.size ≤ 140737488355000 := by omega
    have k2 : val.size ≤ 140737488355000 := by omega
    simp only [Rec.sv, Rec.cells]
    cases kd <;> cases dd <;> simp [ac34, ar34, h, i1, i2, k1, k2, bytesNat_length]
    all_goals (repeat' apply And.intro) <;> first | omega | (simp [recP, bs_append, bs_cons]; done) | (simp [recP, bs_append, bs_cons]; rfl)
  · rw [putR, if_neg h]
    obtain ⟨dl, tm, kd, key, dd, val⟩ := r
    simp only [Rec.sv, Rec.cells]
    simp [ac34, ar34, h]
def unR : SV → Rec
  | .agg [.int _ a, .int _ b, .bool c, .str d, .bool e, .str f] => ⟨a, b, c, d, e, f⟩
  | _ => rec0
def unRL (xs : List SV) : List Rec := xs.map unR
@[simp] theorem unRL_RL (l : List Rec) : unRL (RcL l) = l := by
  simp only [unRL, RcL, List.map_map]
  conv => rhs; rw [← List.map_id l]
  rfl
def inW (n m : Int) : Bool := decide (0 ≤ n) && decide (n ≤ m)
theorem within_pure (n m : Int) : Pure Try.prog 31 [.int .i64 n, .int .i64 m] (.sv (.bool (inW n m))) := by
  refine pure_go R0_ok Try.func31 Try.ntmps31 comp31 cres31 (by decide) (by simp) ?_
  simp [ac31, ar31, R0, inW]
theorem head_pure (b : Bat) : Pure Try.prog 32 [b.sv] (.sv (.agg [.int .i64 b.ba, .int .i64 b.co, .int .i64 b.pr, .int .i64 b.ep, .int .i64 b.sq, .int .i64 b.rs.length])) := by
  refine pure_go R0_ok Try.func32 Try.ntmps32 comp32 cres32 (by decide) (by simp) ?_
  simp [ac32, ar32, R0, Bat.sv, Bat.cells]
def batN (b : Bat) : Int :=
  if b.co < 1 ∨ 32 < b.co ∨ b.ba < 0 ∨ 4611686018427387903 - b.co < b.ba then 11
  else if b.pr < 0 ∨ 1099511627776 < b.pr ∨ b.ep < 0 ∨ 32767 < b.ep ∨ b.sq < 0 ∨ 2147483647 < b.sq then 11
  else if b.pr = 0 ∧ (b.ep ≠ 0 ∨ b.sq ≠ 0) then 4
  else if b.co < b.rs.length then 5 else 0
def RN : Orc := { p := fun f l => match f, l with
  | 31, [.int .i64 n, .int .i64 m] => some (True, .sv (.bool (inW n m)))
  | _, _ => none }
theorem RN_ok : RN.ok Try.prog := by
  refine ⟨fun f l c rv h hc => ?_, fun _ _ _ _ _ _ h => (by cases h), fun _ _ _ _ h => (by cases h), fun _ h => (by cases h), fun _ _ _ _ _ _ h => (by cases h), fun _ _ _ _ _ _ _ h => (by cases h)⟩
  simp only [RN] at h
  split at h <;> cases h
  exact within_pure _ _
theorem RN_31 (n m : Int) : RN.p 31 [.int .i64 n, .int .i64 m] = some (True, .sv (.bool (inW n m))) := rfl
theorem numbers_pure (b : Bat) (hI : I64 b.co) : Pure Try.prog 25 [b.sv] (.sv (.int .i64 (batN b))) := by
  refine pure_go RN_ok Try.func25 Try.ntmps25 comp25 cres25 (by decide) (by simp) ?_
  obtain ⟨ba, ct, pr, ep, sq, rs⟩ := b
  simp only at hI
  have z1 : inW 0 1099511627776 = true := by decide
  have z2 : inW 0 32767 = true := by decide
  have z3 : inW 0 2147483647 = true := by decide
  unfold batN
  simp only
  by_cases h1 : ct < 1
  · simp [ac25, ar25, Bat.sv, Bat.cells, RN_31, h1]
  by_cases h2 : 32 < ct
  · simp [ac25, ar25, Bat.sv, Bat.cells, RN_31, h1, h2]
  have hw : IntKind.i64.wrap (4611686018427387903 - ct) = 4611686018427387903 - ct := by rw [IntKind.wrap_i64]; omega
  by_cases h3 : ba < 0 ∨ 4611686018427387903 - ct < ba
  · have e : inW ba (4611686018427387903 - ct) = false := by
      simp only [inW, Bool.and_eq_false_iff, decide_eq_false_iff_not]; omega
    rw [if_pos (by omega)]
    simp [ac25, ar25, Bat.sv, Bat.cells, RN_31, h1, h2, hw, e]
  have e1 : inW ba (4611686018427387903 - ct) = true := by
    simp only [inW, Bool.and_eq_true, decide_eq_true_eq]; omega
  rw [if_neg (by omega)]
  by_cases h4 : pr < 0 ∨ 1099511627776 < pr
  · have e : inW pr 1099511627776 = false := by
      simp only [inW, Bool.and_eq_false_iff, decide_eq_false_iff_not]; omega
    rw [if_pos (by omega)]
    simp [ac25, ar25, Bat.sv, Bat.cells, RN_31, h1, h2, hw, e1, e]
  have e2 : inW pr 1099511627776 = true := by
    simp only [inW, Bool.and_eq_true, decide_eq_true_eq]; omega
  by_cases h5 : ep < 0 ∨ 32767 < ep
  · have e : inW ep 32767 = false := by
      simp only [inW, Bool.and_eq_false_iff, decide_eq_false_iff_not]; omega
    rw [if_pos (by omega)]
    simp [ac25, ar25, Bat.sv, Bat.cells, RN_31, h1, h2, hw, e1, e2, e]
  have e3 : inW ep 32767 = true := by
    simp only [inW, Bool.and_eq_true, decide_eq_true_eq]; omega
  by_cases h6 : sq < 0 ∨ 2147483647 < sq
  · have e : inW sq 2147483647 = false := by
      simp only [inW, Bool.and_eq_false_iff, decide_eq_false_iff_not]; omega
    rw [if_pos (by omega)]
    simp [ac25, ar25, Bat.sv, Bat.cells, RN_31, h1, h2, hw, e1, e2, e3, e]
  have e4 : inW sq 2147483647 = true := by
    simp only [inW, Bool.and_eq_true, decide_eq_true_eq]; omega
  rw [if_neg (by omega)]
  by_cases h7 : pr = 0 ∧ (ep ≠ 0 ∨ sq ≠ 0)
  · rw [if_pos h7]
    obtain ⟨rfl, h8⟩ := h7
    by_cases h9 : ep = 0
    · have h10 : sq ≠ 0 := by rcases h8 with q | q; exact absurd h9 q; exact q
      simp [ac25, ar25, Bat.sv, Bat.cells, RN_31, z1, z2, z3, h1, h2, hw, e1, e2, e3, e4, h9, h10]
    · simp [ac25, ar25, Bat.sv, Bat.cells, RN_31, z1, z2, z3, h1, h2, hw, e1, e2, e3, e4, h9]
  rw [if_neg h7]
  by_cases h8 : pr = 0
  · have h9 : ep = 0 := Classical.byContradiction fun q => h7 ⟨h8, .inl q⟩
    have h10 : sq = 0 := Classical.byContradiction fun q => h7 ⟨h8, .inr q⟩
    by_cases h11 : ct < rs.length
    · simp [ac25, ar25, Bat.sv, Bat.cells, RN_31, z1, z2, z3, h1, h2, hw, e1, e2, e3, e4, h8, h9, h10, h11]
    · simp [ac25, ar25, Bat.sv, Bat.cells, RN_31, z1, z2, z3, h1, h2, hw, e1, e2, e3, e4, h8, h9, h10, h11]
  · by_cases h11 : ct < rs.length
    · simp [ac25, ar25, Bat.sv, Bat.cells, RN_31, z1, z2, z3, h1, h2, hw, e1, e2, e3, e4, h8, h11]
    · simp [ac25, ar25, Bat.sv, Bat.cells, RN_31, z1, z2, z3, h1, h2, hw, e1, e2, e3, e4, h8, h11]
def hdL (b : Bat) : List Int := [b.ba, b.co, b.pr, b.ep, b.sq, b.rs.length]
def numsB (l : List Int) : List Nat := (l.map fun n => layN (zig n)).flatten
def recsB (l : List Rec) : List Nat := (l.map putR).flatten
def layB (b : Bat) : List Nat := numsB (hdL b) ++ recsB b.rs
theorem numsB_le : ∀ {l : List Int}, (∀ n ∈ l, I64 n) → (numsB l).length ≤ 10 * l.length
  | [], _ => by simp [numsB]
  | n :: l, h => by
    have h1 := layN_le10 (zig_lt (h n (by simp)).1 (h n (by simp)).2)
    have h2 := numsB_le (l := l) (fun m hm => h m (by simp [hm]))
    simp only [numsB, List.map_cons, List.flatten_cons, List.length_append, List.length_cons] at h2 ⊢
    omega
theorem recP_len {r : Rec} (h : recE r = 0) : 1 ≤ (recP r).length ∧ (recP r).length ≤ 1000 := by
  obtain ⟨a1, a2, a3, a4, a5, a6⟩ := recE_small h
  have l1 := layN_le10 (zig_lt (n := r.dl) (by omega) (by omega))
  have l2 := layN_le10 (zig_lt (n := r.tm) (by omega) (by omega))
  have l3 := layN_le10 (u := zig r.key.size) (zig_lt (by omega) (by omega))
  have l4 := layN_le10 (u := zig r.val.size) (zig_lt (by omega) (by omega))
  have k1 := bytesNat_length r.key
  have k2 := bytesNat_length r.val
  simp only [recP, List.length_append, List.length_cons]
  split <;> split <;> simp <;> omega
theorem putR_len (r : Rec) : (putR r).length ≤ 1000 := by
  unfold putR
  split
  · rename_i h; exact (recP_len h).2
  · simp
theorem recsB_le : ∀ l : List Rec, (recsB l).length ≤ 1000 * l.length
  | [] => by simp [recsB]
  | r :: l => by
    have h1 := putR_len r
    have h2 := recsB_le l
    simp only [recsB, List.map_cons, List.flatten_cons, List.length_append, List.length_cons] at h2 ⊢
    omega
theorem recsB_snoc (l : List Rec) (r : Rec) : recsB (l ++ [r]) = recsB l ++ putR r := by simp [recsB]
theorem numsB_snoc (l : List Int) (n : Int) : numsB (l ++ [n]) = numsB l ++ layN (zig n) := by simp [numsB]
def RB : Orc := { p := fun f l => match f, l with
  | 33, [.int .i64 n] => some (I64 n, .own 1 (bs (layN (zig n))))
  | 32, [.agg [.int .i64 a, .int .i64 b, .int .i64 c, .int .i64 d, .int .i64 e, .sl 6 xs]] => some (xs = RcL (unRL xs), .sv (.agg [.int .i64 a, .int .i64 b, .int .i64 c, .int .i64 d, .int .i64 e, .int .i64 xs.length]))
  | 34, [.agg [.int .i64 dl, .int .i64 tm, .bool kd, .str key, .bool dd, .str val]] => some (True, .tup [.own 1 (bs (putR ⟨dl, tm, kd, key, dd, val⟩)), .sv (.int .i64 (recE ⟨dl, tm, kd, key, dd, val⟩))])
  | _, _ => none }
theorem RB_ok : RB.ok Try.prog := by
  refine ⟨fun f l c rv h hc => ?_, fun _ _ _ _ _ _ h => (by cases h), fun _ _ _ _ h => (by cases h), fun _ h => (by cases h), fun _ _ _ _ _ _ h => (by cases h), fun _ _ _ _ _ _ _ h => (by cases h)⟩
  simp only [RB] at h
  split at h <;> cases h
  · exact put_pure _ hc
  · rename_i a b c d e xs
    have := head_pure ⟨a, b, c, d, e, unRL xs⟩
    simp only [Bat.sv, Bat.cells] at this
    rw [← hc] at this
    have hl : (unRL xs).length = xs.length := by simp [unRL]
    rw [hl] at this
    exact this
  · exact put_rec ⟨_, _, _, _, _, _⟩
theorem RB_33 (n : Int) : RB.p 33 [.int .i64 n] = some (I64 n, .own 1 (bs (layN (zig n)))) := rfl
theorem RB_32 (a b c d e : Int) (l : List Rec) : RB.p 32 [.agg [.int .i64 a, .int .i64 b, .int .i64 c, .int .i64 d, .int .i64 e, .sl 6 (RcL l)]] = some (RcL l = RcL l, .sv (.agg [.int .i64 a, .int .i64 b, .int .i64 c, .int .i64 d, .int .i64 e, .int .i64 l.length])) := by
  show some (RcL l = RcL (unRL (RcL l)), LV.sv (.agg [.int .i64 a, .int .i64 b, .int .i64 c, .int .i64 d, .int .i64 e, .int .i64 (RcL l).length])) = _
  rw [unRL_RL, RcL_length]
theorem RB_34 (r : Rec) : RB.p 34 [.agg [.int .i64 r.dl, .int .i64 r.tm, .bool r.kd, .str r.key, .bool r.dd, .str r.val]] = some (True, .tup [.own 1 (bs (putR r)), .sv (.int .i64 (recE r))]) := rfl
theorem lay_bat (b : Bat) (hI : bok b) (hl : b.rs.length ≤ 1000) : Pure Try.prog 27 [b.sv] (.own 1 (bs (layB b))) := by
  refine pure_go RB_ok Try.func27 Try.ntmps27 comp27 cres27 (by decide) (by simp) ?_
  have hhd : ∀ n ∈ hdL b, I64 n := by
    intro n hn
    obtain ⟨i1, i2, i3, i4, i5⟩ := hI
    simp only [hdL, List.mem_cons, List.not_mem_nil, or_false] at hn
    rcases hn with rfl | rfl | rfl | rfl | rfl | rfl
    · exact i1
    · exact i2
    · exact i3
    · exact i4
    · exact i5
    · exact ⟨by omega, by omega⟩
  have hdl : (hdL b).length = 6 := rfl
  simp [ac27, ar27, Bat.sv, Bat.cells, RB_32]
  refine awpR_loop (α := Nat) (fun i => i ≤ 6) (fun i => { n := 37, sl := [(1, .lptr 1 0), (3, .own 1 (bs (numsB ((hdL b).take i)))), (11, .sv (.agg ((hdL b).map fun n => .int .i64 n))), (12, .sv (.int .i64 i))], bx := [(1, b.cells.map .sv)], hp := fun _ => none })
    (fun i => 6 - i) 0 (by omega) (by simp [numsB, bs, Bat.cells, hdL]) ?_
  intro i hi
  by_cases h : i < 6
  · have h1 : (i : Int) < 6 := by omega
    have hw : IntKind.i64.wrap ((i : Int) + 1) = ((i + 1 : Nat) : Int) := by rw [IntKind.wrap_i64]; omega
    have hlt : i < (hdL b).length := by rw [hdl]; exact h
    have hget : ((hdL b).map fun n => SV.int .i64 n)[i]?.getD .undef = .int .i64 ((hdL b).getD i 0) := by simp [List.getD_eq_getElem?_getD, hlt]
    have hin : I64 ((hdL b).getD i 0) := hhd _ (by simp only [List.getD_eq_getElem?_getD, List.getElem?_eq_getElem hlt, Option.getD_some]; exact List.getElem_mem hlt)
    have hsn : numsB ((hdL b).take (i + 1)) = numsB ((hdL b).take i) ++ layN (zig ((hdL b).getD i 0)) := by
      rw [List.take_succ_eq_append_getElem hlt, numsB_snoc]
      simp [List.getD_eq_getElem?_getD, hlt]
    have hle : (numsB ((hdL b).take i)).length ≤ 60 := by
      have := numsB_le (l := (hdL b).take i) (fun n hn => hhd n (List.mem_of_mem_take hn))
      simp at this; omega
    have hle2 := layN_le10 (zig_lt hin.1 hin.2)
    generalize hA : ((hdL b).map fun n => SV.int .i64 n) = A at hget ⊢
    have hAl : A.length = 6 := by rw [← hA]; simp [hdl]
    generalize (hdL b).getD i 0 = n at hget hin hsn hle2
    have h2 : i + 1 ≤ A.length := by omega
    have hiA : i < A.length := by omega
    have hget2 : A[i] = .int .i64 n := by rw [← hget, List.getElem?_eq_getElem hiA]; rfl
    simp [h1, hget, hget2, RB_33, hin, hw, hAl, h]
    refine ⟨by omega, by omega, i + 1, by omega, by omega, ?_⟩
    rw [hsn, bs_append]
    exact ⟨⟨rfl, by omega⟩, WkRs_refl _⟩
  · have h1 : ¬ (i : Int) < 6 := by omega
    obtain rfl : i = 6 := by omega
    have ht6 : (hdL b).take 6 = hdL b := rfl
    simp [Bat.cells, ht6]
    have hnl := numsB_le hhd
    rw [hdl] at hnl
    generalize hH : numsB (hdL b) = H at hnl ⊢
    refine awpR_loop (α := Nat) (fun i => i ≤ b.rs.length) (fun i => { n := 37, sl := [(1, .lptr 1 0), (3, .own 1 (bs (H ++ recsB (b.rs.take i)))), (21, .sv (.sl 6 (RcL b.rs))), (22, .sv (.int .i64 b.rs.length)), (23, .sv (.int .i64 i))], bx := [], hp := fun _ => none })
      (fun i => b.rs.length - i) 0 (by omega) (by simp [recsB]) ?_
    intro i hi
    by_cases h : i < b.rs.length
    · have h1 : (i : Int) < b.rs.length := by omega
      have hw : IntKind.i64.wrap ((i : Int) + 1) = ((i + 1 : Nat) : Int) := by rw [IntKind.wrap_i64]; omega
      have hg := RcL_get b.rs h
      have hsn : recsB (b.rs.take (i + 1)) = recsB (b.rs.take i) ++ putR (b.rs.getD i rec0) := by
        rw [List.take_succ_eq_append_getElem h, recsB_snoc]
        simp [List.getD_eq_getElem?_getD, h]
      have hle := recsB_le (b.rs.take i)
      have hle2 := putR_len (b.rs.getD i rec0)
      have htl : (b.rs.take i).length ≤ 1000 := by simp; omega
      generalize b.rs.getD i rec0 = r at hg hsn hle2
      simp [h1, hg, Rec.sv, Rec.cells, RB_34, hw]
      refine ⟨by omega, i + 1, by omega, by omega, ?_, by omega⟩
      rw [hsn]; simp [bs_append]
    · have h1 : ¬ (i : Int) < b.rs.length := by omega
      obtain rfl : i = b.rs.length := by omega
      simp [h1, layB, hH]
theorem hdL_in {b : Bat} (hI : bok b) (hl : b.rs.length ≤ 1000) : ∀ n ∈ hdL b, I64 n := by
  intro n hn
  obtain ⟨i1, i2, i3, i4, i5⟩ := hI
  simp only [hdL, List.mem_cons, List.not_mem_nil, or_false] at hn
  rcases hn with rfl | rfl | rfl | rfl | rfl | rfl
  · exact i1
  · exact i2
  · exact i3
  · exact i4
  · exact i5
  · exact ⟨by omega, by omega⟩
def chkL (ct : Int) : Int → List Rec → Int
  | _, [] => 0
  | last, r :: l => if recE r ≠ 0 then recE r else if r.dl ≤ last ∨ ct ≤ r.dl then 16 else chkL ct r.dl l
def batE (b : Bat) : Int :=
  if batN b ≠ 0 then batN b else if chkL b.co (-1) b.rs ≠ 0 then chkL b.co (-1) b.rs else if 8192 < (layB b).length then 5 else 0
theorem chkL_drop (ct last : Int) (l : List Rec) (i : Nat) (h : i < l.length) : chkL ct last (l.drop i) = if recE (l.getD i rec0) ≠ 0 then recE (l.getD i rec0) else if (l.getD i rec0).dl ≤ last ∨ ct ≤ (l.getD i rec0).dl then 16 else chkL ct (l.getD i rec0).dl (l.drop (i + 1)) := by
  rw [List.drop_eq_getElem_cons h]
  simp [chkL, List.getD_eq_getElem?_getD, h]
theorem batN_len {b : Bat} (h : batN b = 0) : (b.rs.length : Int) ≤ 32 := by
  unfold batN at h
  split at h
  · cases h
  split at h
  · cases h
  split at h
  · cases h
  split at h
  · cases h
  omega
theorem layB_le (b : Bat) (hI : bok b) (hl : b.rs.length ≤ 1000) : (layB b).length ≤ 60 + 1000 * b.rs.length := by
  have h1 := numsB_le (hdL_in hI hl)
  have h2 := recsB_le b.rs
  have h3 : (hdL b).length = 6 := rfl
  simp only [layB, List.length_append]
  omega
def RC : Orc := { p := fun f l => match f, l with
  | 27, [.agg [.int .i64 a, .int .i64 b, .int .i64 c, .int .i64 d, .int .i64 e, .sl 6 xs]] => some (xs = RcL (unRL xs) ∧ bok ⟨a, b, c, d, e, unRL xs⟩ ∧ xs.length ≤ 1000, .own 1 (bs (layB ⟨a, b, c, d, e, unRL xs⟩)))
  | 25, [.agg [.int .i64 a, .int .i64 b, .int .i64 c, .int .i64 d, .int .i64 e, .sl 6 xs]] => some (xs = RcL (unRL xs) ∧ I64 b, .sv (.int .i64 (batN ⟨a, b, c, d, e, unRL xs⟩)))
  | 26, [.agg [.int .i64 dl, .int .i64 tm, .bool kd, .str key, .bool dd, .str val]] => some (True, .sv (.int .i64 (recE ⟨dl, tm, kd, key, dd, val⟩)))
  | _, _ => none }
theorem RC_ok : RC.ok Try.prog := by
  refine ⟨fun f l c rv h hc => ?_, fun _ _ _ _ _ _ h => (by cases h), fun _ _ _ _ h => (by cases h), fun _ h => (by cases h), fun _ _ _ _ _ _ h => (by cases h), fun _ _ _ _ _ _ _ h => (by cases h)⟩
  simp only [RC] at h
  split at h <;> cases h
  · rename_i a b c d e xs
    obtain ⟨h1, h2, h3⟩ := hc
    have := lay_bat ⟨a, b, c, d, e, unRL xs⟩ h2 (by simpa [unRL] using h3)
    simp only [Bat.sv, Bat.cells, ← h1] at this
    exact this
  · rename_i a b c d e xs
    obtain ⟨h1, h2⟩ := hc
    have := numbers_pure ⟨a, b, c, d, e, unRL xs⟩ h2
    simp only [Bat.sv, Bat.cells, ← h1] at this
    exact this
  · exact check_pure ⟨_, _, _, _, _, _⟩
theorem RC_27 (b : Bat) : RC.p 27 [.agg [.int .i64 b.ba, .int .i64 b.co, .int .i64 b.pr, .int .i64 b.ep, .int .i64 b.sq, .sl 6 (RcL b.rs)]] = some (RcL b.rs = RcL b.rs ∧ bok b ∧ (RcL b.rs).length ≤ 1000, .own 1 (bs (layB b))) := by
  show some (RcL b.rs = RcL (unRL (RcL b.rs)) ∧ bok ⟨b.ba, b.co, b.pr, b.ep, b.sq, unRL (RcL b.rs)⟩ ∧ (RcL b.rs).length ≤ 1000, LV.own 1 (bs (layB ⟨b.ba, b.co, b.pr, b.ep, b.sq, unRL (RcL b.rs)⟩))) = _
  rw [unRL_RL]
theorem RC_25 (b : Bat) : RC.p 25 [.agg [.int .i64 b.ba, .int .i64 b.co, .int .i64 b.pr, .int .i64 b.ep, .int .i64 b.sq, .sl 6 (RcL b.rs)]] = some (RcL b.rs = RcL b.rs ∧ I64 b.co, .sv (.int .i64 (batN b))) := by
  show some (RcL b.rs = RcL (unRL (RcL b.rs)) ∧ I64 b.co, LV.sv (.int .i64 (batN ⟨b.ba, b.co, b.pr, b.ep, b.sq, unRL (RcL b.rs)⟩))) = _
  rw [unRL_RL]
theorem RC_26 (r : Rec) : RC.p 26 [.agg [.int .i64 r.dl, .int .i64 r.tm, .bool r.kd, .str r.key, .bool r.dd, .str r.val]] = some (True, .sv (.int .i64 (recE r))) := rfl
theorem check_bat (b : Bat) (hI : bok b) : Pure Try.prog 14 [b.sv] (.sv (.int .i64 (batE b))) := by
  refine pure_go RC_ok Try.func14 Try.ntmps14 comp14 cres14 (by decide) (by simp) ?_
  have hct := hI.2.1
  by_cases hN : batN b = 0
  case neg => simp [ac14, ar14, Bat.sv, Bat.cells, RC_25, hct, hN, batE]
  have hl := batN_len hN
  have hle : b.rs.length ≤ 1000 := by omega
  have hly := layB_le b hI (by omega)
  simp [ac14, ar14, Bat.sv, Bat.cells, RC_25, hct, hN]
  refine awpR_loop (α := Nat × Int) (fun x => x.1 ≤ b.rs.length ∧ chkL b.co (-1) b.rs = chkL b.co x.2 (b.rs.drop x.1)) (fun x => { n := 43, sl := [(1, .lptr 1 0), (4, .sv (.int .i64 x.2)), (14, .sv (.sl 6 (RcL b.rs))), (15, .sv (.int .i64 b.rs.length)), (16, .sv (.int .i64 x.1))], bx := [(1, b.cells.map .sv)], hp := fun _ => none })
    (fun x => b.rs.length - x.1) (0, -1) ⟨by omega, rfl⟩ (by simp [Bat.cells]) ?_
  rintro ⟨i, last⟩ ⟨hi, he⟩
  simp only at hi he
  by_cases h : i < b.rs.length
  · have h1 : (i : Int) < b.rs.length := by omega
    have hw : IntKind.i64.wrap ((i : Int) + 1) = ((i + 1 : Nat) : Int) := by rw [IntKind.wrap_i64]; omega
    have hg := RcL_get b.rs h
    have hiA : i < (RcL b.rs).length := by simpa using h
    have hg2 : (RcL b.rs)[i] = (b.rs.getD i rec0).sv := by rw [← hg, List.getElem?_eq_getElem hiA]; rfl
    rw [chkL_drop _ _ _ _ h] at he
    generalize b.rs.getD i rec0 = r at hg hg2 he
    by_cases h2 : recE r = 0
    case neg =>
      rw [if_pos h2] at he
      simp [Bat.cells, h1, hg, hg2, h, Rec.sv, Rec.cells, RC_26, hw, h2, batE, hN, he]
    rw [if_neg (fun q => q h2)] at he
    by_cases h3 : r.dl ≤ last
    · rw [if_pos (.inl h3)] at he
      simp [Bat.cells, h1, hg, hg2, h, Rec.sv, Rec.cells, RC_26, hw, h2, batE, hN, he, h3]
    by_cases h4 : b.co ≤ r.dl
    · rw [if_pos (.inr h4)] at he
      simp [Bat.cells, h1, hg, hg2, h, Rec.sv, Rec.cells, RC_26, hw, h2, batE, hN, he, h3, h4]
    rw [if_neg (by omega)] at he
    simp [Bat.cells, h1, hg, hg2, h, Rec.sv, Rec.cells, RC_26, hw, h2, batE, hN, h3, h4]
    exact ⟨i + 1, r.dl, ⟨by omega, he⟩, by omega, rfl, by omega⟩
  · have h1 : ¬ (i : Int) < b.rs.length := by omega
    obtain rfl : i = b.rs.length := by omega
    rw [List.drop_length] at he
    simp only [chkL] at he
    by_cases h5 : 8192 < (layB b).length
    · have h6 : (8192 : Int) < (layB b).length := by omega
      simp [Bat.cells, h1, he, hN, batE, RC_27, hI, hle, h5, h6]
    · have h6 : ¬ (8192 : Int) < (layB b).length := by omega
      simp [Bat.cells, h1, he, hN, batE, RC_27, hI, hle, h5, h6]
theorem next_bat (b : Bat) (h : 0 ≤ b.ba + b.co) (h2 : b.ba + b.co ≤ 4611686018427387904) : Pure Try.prog 15 [b.sv] (.sv (.int .i64 (b.ba + b.co))) := by
  refine pure_go R0_ok Try.func15 Try.ntmps15 comp15 cres15 (by decide) (by simp) ?_
  have hw : IntKind.i64.wrap (b.ba + b.co) = b.ba + b.co := by rw [IntKind.wrap_i64]; omega
  simp [ac15, ar15, Bat.sv, Bat.cells, hw]
end Go.Proofs.Ytikidcgnbcibpaa.Bc
