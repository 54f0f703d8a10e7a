import Derived.Test.YtmfkliabjfngmaaAvL3
import Derived.Test.YtmfkliabjfngmaaProg
import Derived.KernelRfl
import Derived.Test.YtmfkliabjfngmaaMHgL

set_option linter.unusedVariables false
set_option linter.unusedSimpArgs false

set_option maxRecDepth 100000
namespace Go.Proofs.Ytmfkliabjfngmaa

open Go.Av
/-- bilander/bilanderlaw20.GroupCalls -/
def ac6 : AC :=
 (.seq
  (.reg [⟨(some 2), none, .box 3 (.t 0)⟩,
    ⟨(some 3), none, .box 5 (.t 1)⟩,
    ⟨(some 4), none, .mv (.c (.bool false))⟩])
  (.seq
   (.seq
    (.reg [⟨(some 9), none, .load (some 3) (.t 2)⟩,
      ⟨(some 10), none, .call 23 [(.t 9)]⟩,
      ⟨(some 11), none, .una .not (.t 10)⟩,
      ⟨(some 12), none, .take 11⟩,
      ⟨(some 13), (some (12, false)), .faddr (.t 3) 1⟩,
      ⟨(some 14), (some (12, false)), .load none (.t 13)⟩,
      ⟨(some 15), (some (12, false)), .len true (.t 14)⟩,
      ⟨(some 16), (some (12, false)), .bin .gtr (.t 15) (.c (.int .i64 60))⟩,
      ⟨(some 17), none, .pick (.t 12) (.c (.bool true)) (.t 16)⟩])
    (.cond (.t 17)
     (.seq
      (.reg [⟨(some 18), none, .call 24 []⟩,
        ⟨(some 4), none, .take 18⟩])
      .ret)
     .skip))
   (.seq
    (.reg [⟨(some 19), none, .load (some 3) (.t 2)⟩,
      ⟨(some 20), none, .call 25 [(.t 19)]⟩,
      ⟨(some 5), none, .alloc [(.int .i64 0), (.int .u8 0), .nils]⟩,
      ⟨none, none, .store 3 (.t 5) (.t 20)⟩])
    (.seq
     (.reg [⟨(some 22), none, .load (some 3) (.t 5)⟩,
       ⟨(some 23), none, .load (some 3) (.t 2)⟩,
       ⟨(some 24), none, .load (some 5) (.t 3)⟩,
       ⟨(some 25), none, .call 26 [(.t 22), (.t 23), (.t 24)]⟩,
       ⟨(some 21), none, .take 25⟩,
       ⟨(some 26), none, .extS 21 0⟩,
       ⟨(some 27), none, .extS 21 1⟩,
       ⟨(some 28), none, .ext 21 2⟩,
       ⟨(some 6), none, .alloc [(.int .i64 0), (.int .u8 0), .nils]⟩,
       ⟨(some 7), none, .alloc [(.int .i64 0), (.int .u8 0), .nils]⟩,
       ⟨none, none, .store 3 (.t 6) (.t 26)⟩,
       ⟨none, none, .store 3 (.t 7) (.t 27)⟩,
       ⟨(some 8), none, .take 28⟩])
     (.seq
      (.dreg [] [⟨(some 29), none, .mv (.t 8)⟩,
        ⟨(some 30), none, .mv (.t 29)⟩,
        ⟨(some 31), (some (30, true)), .load (some 3) (.t 5)⟩,
        ⟨(some 32), (some (30, true)), .call 28 [(.t 31)]⟩,
        ⟨(some 33), (some (30, true)), .load (some 3) (.t 2)⟩,
        ⟨(some 34), (some (30, true)), .call 27 [(.t 32), (.t 33)]⟩,
        ⟨(some 35), none, .pick (.t 30) (.t 34) (.c (.bool false))⟩,
        ⟨(some 36), none, .mv (.t 35)⟩,
        ⟨(some 37), (some (36, true)), .call 24 []⟩,
        ⟨(some 38), none, .pick (.t 36) (.t 37) (.c (.bool false))⟩,
        ⟨(some 4), none, .take 38⟩])
      .ret)))))
def ar6 : List AR := [.t 4]
theorem comp6 : Try.f6.body.bind (comp Try.prog 39) = some ac6 := by kernel_rfl
theorem cres6 : compRes Try.prog Try.f6.results.toList = some ar6 := by kernel_rfl
/-- bilander/bilanderlaw20.GroupMay -/
def ac7 : AC :=
 (.seq
  (.reg [⟨(some 2), none, .mv (.c (.bool false))⟩])
  (.seq
   (.seq
    (.reg [⟨(some 9), none, .mv (.t 0)⟩,
      ⟨(some 10), none, .len false (.t 9)⟩,
      ⟨(some 11), none, .bin .gtr (.t 10) (.c (.int .i64 40))⟩])
    (.cond (.t 11)
     (.seq
      (.reg [⟨(some 12), none, .call 24 []⟩,
        ⟨(some 2), none, .take 12⟩])
      .ret)
     .skip))
   (.seq
    (.reg [⟨(some 3), none, .alloc [(.int .i64 0), (.int .u8 0), .nils]⟩])
    (.seq
     (.seq
      (.reg [⟨(some 4), none, .mv (.c (.int .i64 0))⟩])
      (.block 0
       (.loop
        (.seq
         (.seq
          (.reg [⟨(some 13), none, .mv (.t 4)⟩,
            ⟨(some 14), none, .mv (.t 0)⟩,
            ⟨(some 15), none, .len false (.t 14)⟩,
            ⟨(some 16), none, .bin .lss (.t 13) (.t 15)⟩])
          (.cond (.t 16)
           .skip
           (.exit 0)))
         (.seq
          (.block 1
           (.seq
            (.seq
             (.reg [⟨(some 19), none, .mv (.t 0)⟩,
               ⟨(some 20), none, .mv (.t 4)⟩,
               ⟨(some 21), none, .iaddr 5 (.t 19) (.t 20)⟩,
               ⟨(some 22), none, .faddr (.t 21) 1⟩,
               ⟨(some 23), none, .load none (.t 22)⟩,
               ⟨(some 24), none, .len true (.t 23)⟩,
               ⟨(some 25), none, .bin .gtr (.t 24) (.c (.int .i64 60))⟩])
             (.cond (.t 25)
              (.seq
               (.reg [⟨(some 26), none, .call 24 []⟩,
                 ⟨(some 2), none, .take 26⟩])
               .ret)
              .skip))
            (.seq
             (.reg [⟨(some 27), none, .load (some 3) (.t 3)⟩,
               ⟨(some 5), none, .alloc [(.int .i64 0), (.int .u8 0), .nils]⟩,
               ⟨none, none, .store 3 (.t 5) (.t 27)⟩,
               ⟨(some 6), none, .mv (.c (.int .i64 0))⟩])
             (.seq
              (.seq
               (.reg [⟨(some 28), none, .mv (.t 0)⟩,
                 ⟨(some 29), none, .mv (.t 4)⟩,
                 ⟨(some 30), none, .iaddr 5 (.t 28) (.t 29)⟩,
                 ⟨(some 31), none, .faddr (.t 30) 0⟩,
                 ⟨(some 32), none, .load none (.t 31)⟩,
                 ⟨(some 33), none, .bin .rem (.t 32) (.c (.int .u8 5))⟩])
               (.block 2
                (.seq
                 (.reg [⟨(some 47), none, .bin .eql (.t 33) (.c (.int .u8 0))⟩,
                   ⟨(some 46), none, .take 47⟩])
                 (.cond (.t 46)
                  (.dreg [] [⟨(some 49), none, .load (some 3) (.t 3)⟩,
                    ⟨(some 50), none, .mv (.t 0)⟩,
                    ⟨(some 51), none, .mv (.t 4)⟩,
                    ⟨(some 52), none, .iaddr 5 (.t 50) (.t 51)⟩,
                    ⟨(some 53), none, .faddr (.t 52) 1⟩,
                    ⟨(some 54), none, .load none (.t 53)⟩,
                    ⟨(some 55), none, .mv (.t 0)⟩,
                    ⟨(some 56), none, .mv (.t 4)⟩,
                    ⟨(some 57), none, .iaddr 5 (.t 55) (.t 56)⟩,
                    ⟨(some 58), none, .faddr (.t 57) 4⟩,
                    ⟨(some 59), none, .load none (.t 58)⟩,
                    ⟨(some 60), none, .call 29 [(.t 49), (.t 54), (.t 59)]⟩,
                    ⟨(some 48), none, .mv (.t 60)⟩,
                    ⟨(some 61), none, .extS 48 0⟩,
                    ⟨(some 62), none, .extS 48 1⟩,
                    ⟨none, none, .store 3 (.t 5) (.t 61)⟩,
                    ⟨(some 6), none, .take 62⟩])
                  (.seq
                   (.reg [⟨(some 64), none, .bin .eql (.t 33) (.c (.int .u8 1))⟩,
                     ⟨(some 63), none, .take 64⟩])
                   (.cond (.t 63)
                    (.dreg [] [⟨(some 66), none, .load (some 3) (.t 3)⟩,
                      ⟨(some 67), none, .mv (.t 0)⟩,
                      ⟨(some 68), none, .mv (.t 4)⟩,
                      ⟨(some 69), none, .iaddr 5 (.t 67) (.t 68)⟩,
                      ⟨(some 70), none, .faddr (.t 69) 1⟩,
                      ⟨(some 71), none, .load none (.t 70)⟩,
                      ⟨(some 72), none, .faddr (.t 3) 0⟩,
                      ⟨(some 73), none, .load none (.t 72)⟩,
                      ⟨(some 74), none, .mv (.t 0)⟩,
                      ⟨(some 75), none, .mv (.t 4)⟩,
                      ⟨(some 76), none, .iaddr 5 (.t 74) (.t 75)⟩,
                      ⟨(some 77), none, .faddr (.t 76) 3⟩,
                      ⟨(some 78), none, .load none (.t 77)⟩,
                      ⟨(some 79), none, .mv (.t 0)⟩,
                      ⟨(some 80), none, .mv (.t 4)⟩,
                      ⟨(some 81), none, .iaddr 5 (.t 79) (.t 80)⟩,
                      ⟨(some 82), none, .faddr (.t 81) 4⟩,
                      ⟨(some 83), none, .load none (.t 82)⟩,
                      ⟨(some 84), none, .call 30 [(.t 66), (.t 71), (.t 73), (.t 78), (.t 83)]⟩,
                      ⟨(some 65), none, .mv (.t 84)⟩,
                      ⟨(some 85), none, .extS 65 0⟩,
                      ⟨(some 86), none, .extS 65 1⟩,
                      ⟨(some 87), none, .extS 65 2⟩,
                      ⟨none, none, .store 3 (.t 5) (.t 85)⟩,
                      ⟨(some 6), none, .take 87⟩])
                    (.seq
                     (.reg [⟨(some 89), none, .bin .eql (.t 33) (.c (.int .u8 2))⟩,
                       ⟨(some 88), none, .take 89⟩])
                     (.cond (.t 88)
                      (.dreg [] [⟨(some 91), none, .load (some 3) (.t 3)⟩,
                        ⟨(some 92), none, .mv (.t 0)⟩,
                        ⟨(some 93), none, .mv (.t 4)⟩,
                        ⟨(some 94), none, .iaddr 5 (.t 92) (.t 93)⟩,
                        ⟨(some 95), none, .faddr (.t 94) 1⟩,
                        ⟨(some 96), none, .load none (.t 95)⟩,
                        ⟨(some 97), none, .mv (.t 0)⟩,
                        ⟨(some 98), none, .mv (.t 4)⟩,
                        ⟨(some 99), none, .iaddr 5 (.t 97) (.t 98)⟩,
                        ⟨(some 100), none, .faddr (.t 99) 2⟩,
                        ⟨(some 101), none, .load none (.t 100)⟩,
                        ⟨(some 102), none, .mv (.t 0)⟩,
                        ⟨(some 103), none, .mv (.t 4)⟩,
                        ⟨(some 104), none, .iaddr 5 (.t 102) (.t 103)⟩,
                        ⟨(some 105), none, .faddr (.t 104) 4⟩,
                        ⟨(some 106), none, .load none (.t 105)⟩,
                        ⟨(some 107), none, .call 31 [(.t 91), (.t 96), (.t 101), (.t 106)]⟩,
                        ⟨(some 90), none, .mv (.t 107)⟩,
                        ⟨(some 108), none, .extS 90 0⟩,
                        ⟨(some 109), none, .extS 90 1⟩,
                        ⟨none, none, .store 3 (.t 5) (.t 108)⟩,
                        ⟨(some 6), none, .take 109⟩])
                      (.seq
                       (.reg [⟨(some 111), none, .bin .eql (.t 33) (.c (.int .u8 3))⟩,
                         ⟨(some 110), none, .take 111⟩])
                       (.cond (.t 110)
                        (.dreg [] [⟨(some 113), none, .load (some 3) (.t 3)⟩,
                          ⟨(some 114), none, .mv (.t 0)⟩,
                          ⟨(some 115), none, .mv (.t 4)⟩,
                          ⟨(some 116), none, .iaddr 5 (.t 114) (.t 115)⟩,
                          ⟨(some 117), none, .faddr (.t 116) 1⟩,
                          ⟨(some 118), none, .load none (.t 117)⟩,
                          ⟨(some 119), none, .call 32 [(.t 113), (.t 118)]⟩,
                          ⟨(some 112), none, .mv (.t 119)⟩,
                          ⟨(some 120), none, .extS 112 0⟩,
                          ⟨(some 121), none, .extS 112 1⟩,
                          ⟨none, none, .store 3 (.t 5) (.t 120)⟩,
                          ⟨(some 6), none, .take 121⟩])
                        (.dreg [] [⟨(some 34), none, .load (some 3) (.t 3)⟩,
                          ⟨(some 35), none, .mv (.t 0)⟩,
                          ⟨(some 36), none, .mv (.t 4)⟩,
                          ⟨(some 37), none, .iaddr 5 (.t 35) (.t 36)⟩,
                          ⟨(some 38), none, .faddr (.t 37) 4⟩,
                          ⟨(some 39), none, .load none (.t 38)⟩,
                          ⟨(some 40), none, .mv (.t 0)⟩,
                          ⟨(some 41), none, .mv (.t 4)⟩,
                          ⟨(some 42), none, .iaddr 5 (.t 40) (.t 41)⟩,
                          ⟨(some 43), none, .faddr (.t 42) 2⟩,
                          ⟨(some 44), none, .load none (.t 43)⟩,
                          ⟨(some 45), none, .call 33 [(.t 34), (.t 39), (.t 44)]⟩,
                          ⟨none, none, .store 3 (.t 5) (.t 45)⟩])))))))))))
              (.seq
               (.seq
                (.reg [⟨(some 122), none, .mv (.t 6)⟩,
                  ⟨(some 123), none, .bin .neq (.t 122) (.c (.int .i64 0))⟩])
                (.cond (.t 123)
                 (.exit 1)
                 .skip))
               (.seq
                (.reg [⟨(some 124), none, .faddr (.t 5) 2⟩,
                  ⟨(some 125), none, .load none (.t 124)⟩,
                  ⟨(some 126), none, .len false (.t 125)⟩,
                  ⟨(some 127), none, .faddr (.t 3) 2⟩,
                  ⟨(some 128), none, .load none (.t 127)⟩,
                  ⟨(some 129), none, .len false (.t 128)⟩,
                  ⟨(some 130), none, .bin .eql (.t 126) (.t 129)⟩,
                  ⟨(some 7), none, .take 130⟩])
                (.seq
                 (.seq
                  (.reg [⟨(some 131), none, .load (some 3) (.t 5)⟩,
                    ⟨(some 132), none, .call 34 [(.t 131)]⟩,
                    ⟨(some 133), none, .bin .neq (.t 132) (.c (.int .i64 0))⟩,
                    ⟨(some 134), none, .take 133⟩,
                    ⟨(some 135), (some (134, false)), .faddr (.t 5) 0⟩,
                    ⟨(some 136), (some (134, false)), .load none (.t 135)⟩,
                    ⟨(some 137), (some (134, false)), .faddr (.t 3) 0⟩,
                    ⟨(some 138), (some (134, false)), .load none (.t 137)⟩,
                    ⟨(some 139), (some (134, false)), .bin .lss (.t 136) (.t 138)⟩,
                    ⟨(some 140), none, .pick (.t 134) (.c (.bool true)) (.t 139)⟩,
                    ⟨(some 141), none, .take 140⟩,
                    ⟨(some 142), (some (141, false)), .mv (.t 7)⟩,
                    ⟨(some 143), (some (141, false)), .faddr (.t 5) 0⟩,
                    ⟨(some 144), (some (141, false)), .load none (.t 143)⟩,
                    ⟨(some 145), (some (141, false)), .faddr (.t 3) 0⟩,
                    ⟨(some 146), (some (141, false)), .load none (.t 145)⟩,
                    ⟨(some 147), (some (141, false)), .bin .eql (.t 144) (.t 146)⟩,
                    ⟨(some 148), (some (141, false)), .beq true (.t 142) (.t 147)⟩,
                    ⟨(some 149), none, .pick (.t 141) (.c (.bool true)) (.t 148)⟩])
                  (.cond (.t 149)
                   (.seq
                    (.reg [⟨(some 2), none, .mv (.c (.bool false))⟩])
                    .ret)
                   .skip))
                 (.seq
                  (.seq
                   (.reg [⟨(some 8), none, .mv (.c (.int .i64 0))⟩])
                   (.block 3
                    (.loop
                     (.seq
                      (.seq
                       (.reg [⟨(some 150), none, .mv (.t 8)⟩,
                         ⟨(some 151), none, .faddr (.t 5) 2⟩,
                         ⟨(some 152), none, .load none (.t 151)⟩,
                         ⟨(some 153), none, .len false (.t 152)⟩,
                         ⟨(some 154), none, .bin .lss (.t 150) (.t 153)⟩,
                         ⟨(some 155), none, .take 154⟩,
                         ⟨(some 156), (some (155, true)), .mv (.t 7)⟩,
                         ⟨(some 157), (some (155, true)), .una .not (.t 156)⟩,
                         ⟨(some 158), none, .pick (.t 155) (.t 157) (.c (.bool false))⟩])
                       (.cond (.t 158)
                        .skip
                        (.exit 3)))
                      (.seq
                       (.block 4
                        (.seq
                         (.reg [⟨(some 161), none, .faddr (.t 5) 2⟩,
                           ⟨(some 162), none, .load none (.t 161)⟩,
                           ⟨(some 163), none, .mv (.t 8)⟩,
                           ⟨(some 164), none, .iaddr 3 (.t 162) (.t 163)⟩,
                           ⟨(some 165), none, .faddr (.t 164) 2⟩,
                           ⟨(some 166), none, .load none (.t 165)⟩])
                         (.cond (.t 166)
                          (.seq
                           (.reg [⟨(some 2), none, .mv (.c (.bool false))⟩])
                           .ret)
                          .skip)))
                       (.reg [⟨(some 159), none, .take 8⟩,
                         ⟨(some 160), none, .bin .add (.t 159) (.c (.int .i64 1))⟩,
                         ⟨(some 8), none, .take 160⟩]))))))
                  (.reg [⟨(some 167), none, .load (some 3) (.t 5)⟩,
                    ⟨none, none, .store 3 (.t 3) (.t 167)⟩])))))))))
          (.reg [⟨(some 17), none, .take 4⟩,
            ⟨(some 18), none, .bin .add (.t 17) (.c (.int .i64 1))⟩,
            ⟨(some 4), none, .take 18⟩]))))))
     (.seq
      (.reg [⟨(some 168), none, .call 24 []⟩,
        ⟨(some 2), none, .take 168⟩])
      .ret)))))
def ar7 : List AR := [.t 2]
theorem comp7 : Try.f7.body.bind (comp Try.prog 169) = some ac7 := by kernel_rfl
theorem cres7 : compRes Try.prog Try.f7.results.toList = some ar7 := by kernel_rfl
/-- bilander/bilanderlaw20.GroupParts -/
def ac8 : AC :=
 (.seq
  (.reg [⟨(some 4), none, .mv (.c (.bool false))⟩])
  (.seq
   (.reg [⟨(some 5), none, .alloc [(.int .i64 0), (.int .u8 0), .nils]⟩])
   (.seq
    (.seq
     (.reg [⟨(some 6), none, .mv (.c (.int .i64 0))⟩])
     (.block 0
      (.loop
       (.seq
        (.seq
         (.reg [⟨(some 21), none, .mv (.t 6)⟩,
           ⟨(some 22), none, .mv (.t 0)⟩,
           ⟨(some 23), none, .bin .rem (.t 22) (.c (.int .u8 8))⟩,
           ⟨(some 24), none, .conv .i64 (.t 23)⟩,
           ⟨(some 25), none, .bin .lss (.t 21) (.t 24)⟩])
         (.cond (.t 25)
          .skip
          (.exit 0)))
        (.seq
         (.block 1
          (.seq
           (.reg [⟨(some 29), none, .load (some 3) (.t 5)⟩,
             ⟨(some 30), none, .mv (.t 6)⟩,
             ⟨(some 31), none, .bin .add (.c (.int .i64 97)) (.t 30)⟩,
             ⟨(some 32), none, .conv .u8 (.t 31)⟩,
             ⟨(some 33), none, .bsl 1 2 [(.int .u8 0)] [(0, (.c (.int .u8 109))), (1, (.t 32))]⟩,
             ⟨(some 34), none, .b2s (.t 33)⟩,
             ⟨(some 35), none, .mv (.t 6)⟩,
             ⟨(some 36), none, .call 29 [(.t 29), (.t 34), (.t 35)]⟩,
             ⟨(some 28), none, .take 36⟩,
             ⟨(some 37), none, .extS 28 0⟩,
             ⟨(some 38), none, .ext 28 1⟩,
             ⟨(some 7), none, .alloc [(.int .i64 0), (.int .u8 0), .nils]⟩,
             ⟨none, none, .store 3 (.t 7) (.t 37)⟩,
             ⟨(some 8), none, .take 38⟩])
           (.seq
            (.seq
             (.reg [⟨(some 39), none, .mv (.t 8)⟩,
               ⟨(some 40), none, .bin .neq (.t 39) (.c (.int .i64 0))⟩])
             (.cond (.t 40)
              (.seq
               (.reg [⟨(some 4), none, .mv (.c (.bool false))⟩])
               .ret)
              .skip))
            (.reg [⟨(some 41), none, .load (some 3) (.t 7)⟩,
              ⟨none, none, .store 3 (.t 5) (.t 41)⟩]))))
         (.reg [⟨(some 26), none, .take 6⟩,
           ⟨(some 27), none, .bin .add (.t 26) (.c (.int .i64 1))⟩,
           ⟨(some 6), none, .take 27⟩]))))))
    (.seq
     (.reg [⟨(some 42), none, .mv (.t 1)⟩,
       ⟨(some 43), none, .bin .rem (.t 42) (.c (.int .u8 40))⟩,
       ⟨(some 44), none, .conv .i64 (.t 43)⟩,
       ⟨(some 9), none, .take 44⟩])
     (.seq
      (.reg [⟨(some 45), none, .mv (.t 9)⟩,
        ⟨(some 46), none, .mks 1 8 [(.int .i64 0)] (.t 45)⟩,
        ⟨(some 10), none, .take 46⟩])
      (.seq
       (.reg [⟨(some 47), none, .load (some 3) (.t 5)⟩,
         ⟨(some 48), none, .call 35 [(.t 47)]⟩,
         ⟨(some 11), none, .take 48⟩])
       (.seq
        (.seq
         (.reg [⟨(some 12), none, .mv (.c (.int .i64 0))⟩])
         (.block 2
          (.loop
           (.seq
            (.seq
             (.reg [⟨(some 49), none, .mv (.t 12)⟩,
               ⟨(some 50), none, .mv (.t 11)⟩,
               ⟨(some 51), none, .len false (.t 50)⟩,
               ⟨(some 52), none, .bin .lss (.t 49) (.t 51)⟩])
             (.cond (.t 52)
              .skip
              (.exit 2)))
            (.seq
             (.block 3
              (.seq
               (.dreg [] [⟨(some 56), none, .load (some 3) (.t 5)⟩,
                 ⟨(some 57), none, .mv (.t 11)⟩,
                 ⟨(some 58), none, .mv (.t 12)⟩,
                 ⟨(some 59), none, .iaddr 1 (.t 57) (.t 58)⟩,
                 ⟨(some 60), none, .load none (.t 59)⟩,
                 ⟨(some 61), none, .faddr (.t 5) 0⟩,
                 ⟨(some 62), none, .load none (.t 61)⟩,
                 ⟨(some 63), none, .bin .sub (.t 62) (.c (.int .i64 1))⟩,
                 ⟨(some 64), none, .mv (.t 9)⟩,
                 ⟨(some 65), none, .call 30 [(.t 56), (.t 60), (.t 63), (.t 64), (.c (.int .i64 99))]⟩,
                 ⟨(some 55), none, .mv (.t 65)⟩,
                 ⟨(some 66), none, .extS 55 0⟩,
                 ⟨(some 67), none, .extS 55 1⟩,
                 ⟨(some 68), none, .extS 55 2⟩,
                 ⟨(some 13), none, .alloc [(.int .i64 0), (.int .u8 0), .nils]⟩,
                 ⟨none, none, .store 3 (.t 13) (.t 66)⟩,
                 ⟨(some 14), none, .take 67⟩,
                 ⟨(some 15), none, .take 68⟩])
               (.seq
                (.dreg [] [⟨(some 70), none, .load (some 3) (.t 5)⟩,
                  ⟨(some 71), none, .mv (.t 11)⟩,
                  ⟨(some 72), none, .mv (.t 12)⟩,
                  ⟨(some 73), none, .iaddr 1 (.t 71) (.t 72)⟩,
                  ⟨(some 74), none, .load none (.t 73)⟩,
                  ⟨(some 75), none, .faddr (.t 5) 0⟩,
                  ⟨(some 76), none, .load none (.t 75)⟩,
                  ⟨(some 77), none, .mv (.t 9)⟩,
                  ⟨(some 78), none, .call 30 [(.t 70), (.t 74), (.t 76), (.t 77), (.c (.int .i64 99))]⟩,
                  ⟨(some 69), none, .mv (.t 78)⟩,
                  ⟨(some 79), none, .extS 69 0⟩,
                  ⟨(some 80), none, .extS 69 1⟩,
                  ⟨(some 81), none, .extS 69 2⟩,
                  ⟨(some 16), none, .alloc [(.int .i64 0), (.int .u8 0), .nils]⟩,
                  ⟨none, none, .store 3 (.t 16) (.t 79)⟩,
                  ⟨(some 17), none, .take 80⟩,
                  ⟨(some 18), none, .take 81⟩])
                (.seq
                 (.seq
                  (.reg [⟨(some 82), none, .mv (.t 18)⟩,
                    ⟨(some 83), none, .bin .neq (.t 82) (.c (.int .i64 0))⟩,
                    ⟨(some 84), none, .take 83⟩,
                    ⟨(some 85), (some (84, false)), .mv (.t 15)⟩,
                    ⟨(some 86), (some (84, false)), .bin .neq (.t 85) (.c (.int .i64 19))⟩,
                    ⟨(some 87), none, .pick (.t 84) (.c (.bool true)) (.t 86)⟩])
                  (.cond (.t 87)
                   (.seq
                    (.reg [⟨(some 4), none, .mv (.c (.bool false))⟩])
                    .ret)
                   .skip))
                 (.seq
                  (.reg [⟨(some 88), none, .load (some 3) (.t 16)⟩,
                    ⟨none, none, .store 3 (.t 5) (.t 88)⟩])
                  (.seq
                   (.reg [⟨(some 19), none, .mv (.c (.int .i64 0))⟩])
                   (.block 4
                    (.loop
                     (.seq
                      (.seq
                       (.reg [⟨(some 89), none, .mv (.t 19)⟩,
                         ⟨(some 90), none, .mv (.t 17)⟩,
                         ⟨(some 91), none, .len false (.t 90)⟩,
                         ⟨(some 92), none, .bin .lss (.t 89) (.t 91)⟩])
                       (.cond (.t 92)
                        .skip
                        (.exit 4)))
                      (.seq
                       (.block 5
                        (.seq
                         (.seq
                          (.reg [⟨(some 95), none, .mv (.t 17)⟩,
                            ⟨(some 96), none, .mv (.t 19)⟩,
                            ⟨(some 97), none, .iaddr 1 (.t 95) (.t 96)⟩,
                            ⟨(some 98), none, .load none (.t 97)⟩,
                            ⟨(some 99), none, .bin .lss (.t 98) (.c (.int .i64 0))⟩,
                            ⟨(some 100), none, .take 99⟩,
                            ⟨(some 101), (some (100, false)), .mv (.t 17)⟩,
                            ⟨(some 102), (some (100, false)), .mv (.t 19)⟩,
                            ⟨(some 103), (some (100, false)), .iaddr 1 (.t 101) (.t 102)⟩,
                            ⟨(some 104), (some (100, false)), .load none (.t 103)⟩,
                            ⟨(some 105), (some (100, false)), .mv (.t 9)⟩,
                            ⟨(some 106), (some (100, false)), .bin .geq (.t 104) (.t 105)⟩,
                            ⟨(some 107), none, .pick (.t 100) (.c (.bool true)) (.t 106)⟩])
                          (.cond (.t 107)
                           (.seq
                            (.reg [⟨(some 4), none, .mv (.c (.bool false))⟩])
                            .ret)
                           .skip))
                         (.reg [⟨(some 108), none, .mv (.t 10)⟩,
                           ⟨(some 109), none, .mv (.t 17)⟩,
                           ⟨(some 110), none, .mv (.t 19)⟩,
                           ⟨(some 111), none, .iaddr 1 (.t 109) (.t 110)⟩,
                           ⟨(some 112), none, .load none (.t 111)⟩,
                           ⟨(some 113), none, .iaddr 1 (.t 108) (.t 112)⟩,
                           ⟨(some 114), none, .load none (.t 113)⟩,
                           ⟨(some 115), none, .bin .add (.t 114) (.c (.int .i64 1))⟩,
                           ⟨(some 116), none, .iaddr 1 (.t 108) (.t 112)⟩,
                           ⟨none, none, .store 1 (.t 116) (.t 115)⟩])))
                       (.reg [⟨(some 93), none, .take 19⟩,
                         ⟨(some 94), none, .bin .add (.t 93) (.c (.int .i64 1))⟩,
                         ⟨(some 19), none, .take 94⟩])))))))))))
             (.reg [⟨(some 53), none, .take 12⟩,
               ⟨(some 54), none, .bin .add (.t 53) (.c (.int .i64 1))⟩,
               ⟨(some 12), none, .take 54⟩]))))))
        (.seq
         (.seq
          (.reg [⟨(some 20), none, .mv (.c (.int .i64 0))⟩])
          (.block 6
           (.loop
            (.seq
             (.seq
              (.reg [⟨(some 117), none, .mv (.t 20)⟩,
                ⟨(some 118), none, .mv (.t 9)⟩,
                ⟨(some 119), none, .bin .lss (.t 117) (.t 118)⟩])
              (.cond (.t 119)
               .skip
               (.exit 6)))
             (.seq
              (.block 7
               (.seq
                (.reg [⟨(some 122), none, .mv (.t 10)⟩,
                  ⟨(some 123), none, .mv (.t 20)⟩,
                  ⟨(some 124), none, .iaddr 1 (.t 122) (.t 123)⟩,
                  ⟨(some 125), none, .load none (.t 124)⟩,
                  ⟨(some 126), none, .mv (.t 11)⟩,
                  ⟨(some 127), none, .len false (.t 126)⟩,
                  ⟨(some 128), none, .minmax false (.c (.int .i64 1)) (.t 127)⟩,
                  ⟨(some 129), none, .bin .neq (.t 125) (.t 128)⟩])
                (.cond (.t 129)
                 (.seq
                  (.reg [⟨(some 4), none, .mv (.c (.bool false))⟩])
                  .ret)
                 .skip)))
              (.reg [⟨(some 120), none, .take 20⟩,
                ⟨(some 121), none, .bin .add (.t 120) (.c (.int .i64 1))⟩,
                ⟨(some 20), none, .take 121⟩]))))))
         (.seq
          (.reg [⟨(some 130), none, .mv (.t 11)⟩,
            ⟨(some 131), none, .len false (.t 130)⟩,
            ⟨(some 132), none, .mv (.t 0)⟩,
            ⟨(some 133), none, .bin .rem (.t 132) (.c (.int .u8 8))⟩,
            ⟨(some 134), none, .conv .i64 (.t 133)⟩,
            ⟨(some 135), none, .bin .eql (.t 131) (.t 134)⟩,
            ⟨(some 136), none, .take 135⟩,
            ⟨(some 137), (some (136, true)), .faddr (.t 5) 1⟩,
            ⟨(some 138), (some (136, true)), .load none (.t 137)⟩,
            ⟨(some 139), (some (136, true)), .bin .eql (.t 138) (.c (.int .u8 2))⟩,
            ⟨(some 140), (some (136, true)), .mv (.t 11)⟩,
            ⟨(some 141), (some (136, true)), .len false (.t 140)⟩,
            ⟨(some 142), (some (136, true)), .bin .gtr (.t 141) (.c (.int .i64 0))⟩,
            ⟨(some 143), (some (136, true)), .beq false (.t 139) (.t 142)⟩,
            ⟨(some 144), none, .pick (.t 136) (.t 143) (.c (.bool false))⟩,
            ⟨(some 145), none, .take 144⟩,
            ⟨(some 146), (some (145, true)), .call 24 []⟩,
            ⟨(some 147), none, .pick (.t 145) (.t 146) (.c (.bool false))⟩,
            ⟨(some 4), none, .take 147⟩])
          .ret)))))))))
def ar8 : List AR := [.t 4]
theorem comp8 : Try.f8.body.bind (comp Try.prog 148) = some ac8 := by kernel_rfl
theorem cres8 : compRes Try.prog Try.f8.results.toList = some ar8 := by kernel_rfl
/-- bilander/bilanderlaw20.GroupReturns -/
def ac9 : AC :=
 (.seq
  (.reg [⟨(some 6), none, .mv (.c (.bool false))⟩])
  (.seq
   (.seq
    (.reg [⟨(some 18), none, .mv (.t 0)⟩,
      ⟨(some 19), none, .len false (.t 18)⟩,
      ⟨(some 20), none, .bin .gtr (.t 19) (.c (.int .i64 30))⟩,
      ⟨(some 21), none, .take 20⟩,
      ⟨(some 22), (some (21, false)), .mv (.t 1)⟩,
      ⟨(some 23), (some (21, false)), .len true (.t 22)⟩,
      ⟨(some 24), (some (21, false)), .bin .gtr (.t 23) (.c (.int .i64 60))⟩,
      ⟨(some 25), none, .pick (.t 21) (.c (.bool true)) (.t 24)⟩])
    (.cond (.t 25)
     (.seq
      (.reg [⟨(some 26), none, .call 24 []⟩,
        ⟨(some 6), none, .take 26⟩])
      .ret)
     .skip))
   (.seq
    (.reg [⟨(some 7), none, .alloc [(.int .i64 0), (.int .u8 0), .nils]⟩])
    (.seq
     (.seq
      (.reg [⟨(some 8), none, .mv (.c (.int .i64 0))⟩])
      (.block 0
       (.loop
        (.seq
         (.seq
          (.reg [⟨(some 27), none, .mv (.t 8)⟩,
            ⟨(some 28), none, .mv (.t 0)⟩,
            ⟨(some 29), none, .len false (.t 28)⟩,
            ⟨(some 30), none, .bin .lss (.t 27) (.t 29)⟩])
          (.cond (.t 30)
           .skip
           (.exit 0)))
         (.seq
          (.block 1
           (.seq
            (.seq
             (.reg [⟨(some 33), none, .mv (.t 0)⟩,
               ⟨(some 34), none, .mv (.t 8)⟩,
               ⟨(some 35), none, .iaddr 5 (.t 33) (.t 34)⟩,
               ⟨(some 36), none, .faddr (.t 35) 1⟩,
               ⟨(some 37), none, .load none (.t 36)⟩,
               ⟨(some 38), none, .len true (.t 37)⟩,
               ⟨(some 39), none, .bin .gtr (.t 38) (.c (.int .i64 60))⟩])
             (.cond (.t 39)
              (.seq
               (.reg [⟨(some 40), none, .call 24 []⟩,
                 ⟨(some 6), none, .take 40⟩])
               .ret)
              .skip))
            (.seq
             (.dreg [] [⟨(some 42), none, .load (some 3) (.t 7)⟩,
               ⟨(some 43), none, .mv (.t 0)⟩,
               ⟨(some 44), none, .mv (.t 8)⟩,
               ⟨(some 45), none, .iaddr 5 (.t 43) (.t 44)⟩,
               ⟨(some 46), none, .faddr (.t 45) 1⟩,
               ⟨(some 47), none, .load none (.t 46)⟩,
               ⟨(some 48), none, .mv (.t 0)⟩,
               ⟨(some 49), none, .mv (.t 8)⟩,
               ⟨(some 50), none, .iaddr 5 (.t 48) (.t 49)⟩,
               ⟨(some 51), none, .faddr (.t 50) 4⟩,
               ⟨(some 52), none, .load none (.t 51)⟩,
               ⟨(some 53), none, .call 29 [(.t 42), (.t 47), (.t 52)]⟩,
               ⟨(some 41), none, .mv (.t 53)⟩,
               ⟨(some 54), none, .extS 41 0⟩,
               ⟨(some 55), none, .extS 41 1⟩,
               ⟨(some 9), none, .alloc [(.int .i64 0), (.int .u8 0), .nils]⟩,
               ⟨none, none, .store 3 (.t 9) (.t 54)⟩,
               ⟨(some 10), none, .take 55⟩])
             (.seq
              (.reg [⟨(some 56), none, .mv (.t 10)⟩,
                ⟨(some 57), none, .bin .eql (.t 56) (.c (.int .i64 0))⟩])
              (.cond (.t 57)
               (.reg [⟨(some 58), none, .load (some 3) (.t 9)⟩,
                 ⟨none, none, .store 3 (.t 7) (.t 58)⟩])
               .skip)))))
          (.reg [⟨(some 31), none, .take 8⟩,
            ⟨(some 32), none, .bin .add (.t 31) (.c (.int .i64 1))⟩,
            ⟨(some 8), none, .take 32⟩]))))))
     (.seq
      (.reg [⟨(some 60), none, .load (some 3) (.t 7)⟩,
        ⟨(some 61), none, .mv (.t 1)⟩,
        ⟨(some 62), none, .call 36 [(.t 60), (.t 61)]⟩,
        ⟨(some 59), none, .take 62⟩,
        ⟨(some 63), none, .extS 59 0⟩,
        ⟨(some 64), none, .ext 59 1⟩,
        ⟨(some 11), none, .alloc [(.str (ByteArray.mk #[])), (.int .i64 0), (.bool false)]⟩,
        ⟨none, none, .store 3 (.t 11) (.t 63)⟩,
        ⟨(some 12), none, .take 64⟩])
      (.seq
       (.reg [⟨(some 66), none, .load (some 3) (.t 7)⟩,
         ⟨(some 67), none, .mv (.t 1)⟩,
         ⟨(some 68), none, .mv (.t 2)⟩,
         ⟨(some 69), none, .call 29 [(.t 66), (.t 67), (.t 68)]⟩,
         ⟨(some 65), none, .take 69⟩,
         ⟨(some 70), none, .extS 65 0⟩,
         ⟨(some 71), none, .ext 65 1⟩,
         ⟨(some 13), none, .alloc [(.int .i64 0), (.int .u8 0), .nils]⟩,
         ⟨none, none, .store 3 (.t 13) (.t 70)⟩,
         ⟨(some 14), none, .take 71⟩])
       (.seq
        (.seq
         (.reg [⟨(some 72), none, .mv (.t 14)⟩,
           ⟨(some 73), none, .bin .neq (.t 72) (.c (.int .i64 0))⟩])
         (.cond (.t 73)
          (.seq
           (.reg [⟨(some 74), none, .call 24 []⟩,
             ⟨(some 6), none, .take 74⟩])
           .ret)
          .skip))
        (.seq
         (.seq
          (.reg [⟨(some 75), none, .mv (.t 12)⟩])
          (.cond (.t 75)
           (.seq
            (.reg [⟨(some 76), none, .faddr (.t 13) 0⟩,
              ⟨(some 77), none, .load none (.t 76)⟩,
              ⟨(some 78), none, .faddr (.t 7) 0⟩,
              ⟨(some 79), none, .load none (.t 78)⟩,
              ⟨(some 80), none, .bin .eql (.t 77) (.t 79)⟩,
              ⟨(some 81), none, .take 80⟩,
              ⟨(some 82), (some (81, true)), .faddr (.t 13) 2⟩,
              ⟨(some 83), (some (81, true)), .load none (.t 82)⟩,
              ⟨(some 84), (some (81, true)), .len false (.t 83)⟩,
              ⟨(some 85), (some (81, true)), .faddr (.t 7) 2⟩,
              ⟨(some 86), (some (81, true)), .load none (.t 85)⟩,
              ⟨(some 87), (some (81, true)), .len false (.t 86)⟩,
              ⟨(some 88), (some (81, true)), .bin .eql (.t 84) (.t 87)⟩,
              ⟨(some 89), none, .pick (.t 81) (.t 88) (.c (.bool false))⟩,
              ⟨(some 90), none, .take 89⟩,
              ⟨(some 91), (some (90, true)), .call 24 []⟩,
              ⟨(some 92), none, .pick (.t 90) (.t 91) (.c (.bool false))⟩,
              ⟨(some 6), none, .take 92⟩])
            .ret)
           .skip))
         (.seq
          (.reg [⟨(some 94), none, .load (some 3) (.t 13)⟩,
            ⟨(some 95), none, .mv (.t 1)⟩,
            ⟨(some 96), none, .call 32 [(.t 94), (.t 95)]⟩,
            ⟨(some 93), none, .take 96⟩,
            ⟨(some 97), none, .extS 93 0⟩,
            ⟨(some 98), none, .ext 93 1⟩,
            ⟨(some 15), none, .alloc [(.int .i64 0), (.int .u8 0), .nils]⟩,
            ⟨none, none, .store 3 (.t 15) (.t 97)⟩,
            ⟨(some 16), none, .take 98⟩])
          (.seq
           (.seq
            (.reg [⟨(some 99), none, .mv (.t 16)⟩,
              ⟨(some 100), none, .bin .neq (.t 99) (.c (.int .i64 0))⟩,
              ⟨(some 101), none, .take 100⟩,
              ⟨(some 102), (some (101, false)), .faddr (.t 15) 0⟩,
              ⟨(some 103), (some (101, false)), .load none (.t 102)⟩,
              ⟨(some 104), (some (101, false)), .faddr (.t 7) 0⟩,
              ⟨(some 105), (some (101, false)), .load none (.t 104)⟩,
              ⟨(some 106), (some (101, false)), .bin .add (.t 105) (.c (.int .i64 2))⟩,
              ⟨(some 107), (some (101, false)), .bin .neq (.t 103) (.t 106)⟩,
              ⟨(some 108), none, .pick (.t 101) (.c (.bool true)) (.t 107)⟩,
              ⟨(some 109), none, .take 108⟩,
              ⟨(some 110), (some (109, false)), .faddr (.t 15) 2⟩,
              ⟨(some 111), (some (109, false)), .load none (.t 110)⟩,
              ⟨(some 112), (some (109, false)), .len false (.t 111)⟩,
              ⟨(some 113), (some (109, false)), .faddr (.t 7) 2⟩,
              ⟨(some 114), (some (109, false)), .load none (.t 113)⟩,
              ⟨(some 115), (some (109, false)), .len false (.t 114)⟩,
              ⟨(some 116), (some (109, false)), .bin .neq (.t 112) (.t 115)⟩,
              ⟨(some 117), none, .pick (.t 109) (.c (.bool true)) (.t 116)⟩])
            (.cond (.t 117)
             (.seq
              (.reg [⟨(some 6), none, .mv (.c (.bool false))⟩])
              .ret)
             .skip))
           (.seq
            (.seq
             (.reg [⟨(some 17), none, .mv (.c (.int .i64 0))⟩])
             (.block 2
              (.loop
               (.seq
                (.seq
                 (.reg [⟨(some 118), none, .mv (.t 17)⟩,
                   ⟨(some 119), none, .faddr (.t 7) 2⟩,
                   ⟨(some 120), none, .load none (.t 119)⟩,
                   ⟨(some 121), none, .len false (.t 120)⟩,
                   ⟨(some 122), none, .bin .lss (.t 118) (.t 121)⟩])
                 (.cond (.t 122)
                  .skip
                  (.exit 2)))
                (.seq
                 (.block 3
                  (.seq
                   (.dreg [] [⟨(some 125), none, .faddr (.t 15) 2⟩,
                     ⟨(some 126), none, .load none (.t 125)⟩,
                     ⟨(some 127), none, .mv (.t 17)⟩,
                     ⟨(some 128), none, .iaddr 3 (.t 126) (.t 127)⟩,
                     ⟨(some 129), none, .faddr (.t 128) 0⟩,
                     ⟨(some 130), none, .load none (.t 129)⟩,
                     ⟨(some 131), none, .faddr (.t 7) 2⟩,
                     ⟨(some 132), none, .load none (.t 131)⟩,
                     ⟨(some 133), none, .mv (.t 17)⟩,
                     ⟨(some 134), none, .iaddr 3 (.t 132) (.t 133)⟩,
                     ⟨(some 135), none, .faddr (.t 134) 0⟩,
                     ⟨(some 136), none, .load none (.t 135)⟩,
                     ⟨(some 137), none, .bin .neq (.t 130) (.t 136)⟩,
                     ⟨(some 138), none, .mv (.t 137)⟩,
                     ⟨(some 139), (some (138, false)), .faddr (.t 15) 2⟩,
                     ⟨(some 140), (some (138, false)), .load none (.t 139)⟩,
                     ⟨(some 141), (some (138, false)), .mv (.t 17)⟩,
                     ⟨(some 142), (some (138, false)), .iaddr 3 (.t 140) (.t 141)⟩,
                     ⟨(some 143), (some (138, false)), .faddr (.t 142) 1⟩,
                     ⟨(some 144), (some (138, false)), .load none (.t 143)⟩,
                     ⟨(some 145), (some (138, false)), .faddr (.t 7) 2⟩,
                     ⟨(some 146), (some (138, false)), .load none (.t 145)⟩,
                     ⟨(some 147), (some (138, false)), .mv (.t 17)⟩,
                     ⟨(some 148), (some (138, false)), .iaddr 3 (.t 146) (.t 147)⟩,
                     ⟨(some 149), (some (138, false)), .faddr (.t 148) 1⟩,
                     ⟨(some 150), (some (138, false)), .load none (.t 149)⟩,
                     ⟨(some 151), (some (138, false)), .bin .neq (.t 144) (.t 150)⟩,
                     ⟨(some 152), none, .pick (.t 138) (.c (.bool true)) (.t 151)⟩,
                     ⟨(some 153), none, .mv (.t 152)⟩,
                     ⟨(some 154), (some (153, false)), .faddr (.t 15) 2⟩,
                     ⟨(some 155), (some (153, false)), .load none (.t 154)⟩,
                     ⟨(some 156), (some (153, false)), .mv (.t 17)⟩,
                     ⟨(some 157), (some (153, false)), .iaddr 3 (.t 155) (.t 156)⟩,
                     ⟨(some 158), (some (153, false)), .faddr (.t 157) 2⟩,
                     ⟨(some 159), (some (153, false)), .load none (.t 158)⟩,
                     ⟨(some 160), none, .pick (.t 153) (.c (.bool true)) (.t 159)⟩])
                   (.cond (.t 160)
                    (.seq
                     (.reg [⟨(some 6), none, .mv (.c (.bool false))⟩])
                     .ret)
                    .skip)))
                 (.reg [⟨(some 123), none, .take 17⟩,
                   ⟨(some 124), none, .bin .add (.t 123) (.c (.int .i64 1))⟩,
                   ⟨(some 17), none, .take 124⟩]))))))
            (.seq
             (.reg [⟨(some 161), none, .call 24 []⟩,
               ⟨(some 6), none, .take 161⟩])
             .ret))))))))))))
def ar9 : List AR := [.t 6]
theorem comp9 : Try.f9.body.bind (comp Try.prog 162) = some ac9 := by kernel_rfl
theorem cres9 : compRes Try.prog Try.f9.results.toList = some ar9 := by kernel_rfl
end Go.Proofs.Ytmfkliabjfngmaa

/- Group: law 9. -/




set_option linter.unusedSimpArgs false
set_option linter.unusedVariables false
set_option maxHeartbeats 16000000
set_option maxRecDepth 100000
namespace Go.Proofs.Ytmfkliabjfngmaa

open Go.Av

theorem idxM_skip (p : Mb → Bool) : ∀ (l r : List Mb) (k : Nat), (∀ m ∈ l, p m = false) → idxM p (l ++ r) k = idxM p r (k + l.length)
  | [], r, k, _ => rfl
  | m :: l, r, k, h => by
    rw [List.cons_append, idxM, if_neg (by rw [h m (List.mem_cons_self ..)]; simp), idxM_skip p l r (k + 1) (fun x hx => h x (List.mem_cons_of_mem _ hx)), List.length_cons]
    congr 1; omega
theorem place_ins {id : ByteArray} {l : List Mb} (h : placeP id l < 0) (i : Nat) (hi : i ≤ l.length) (now : Int) : placeP id (offM (insM l i ⟨id, now, false⟩)) = i := by
  have e : placeP id (offM (insM l i ⟨id, now, false⟩)) = placeP id (insM l i ⟨id, now, false⟩) := idx_ids id _ _ 0 (off_ids _)
  rw [e]
  unfold placeP insM
  rw [idxM_skip _ _ _ _ (fun m hm => by simpa using place_no h m (List.mem_of_mem_take hm)), idxM, if_pos (by simp)]
  simp [Nat.min_eq_left hi]
theorem off_app (a b : List Mb) : offM (a ++ b) = offM a ++ offM b := by simp [offM]
theorem off_off (l : List Mb) : offM (offM l) = offM l := by simp [offM]
theorem off_take (l : List Mb) (n : Nat) : (offM l).take n = offM (l.take n) := by simp [offM]
theorem off_drop (l : List Mb) (n : Nat) : (offM l).drop n = offM (l.drop n) := by simp [offM]
theorem ins_del (l : List Mb) (i : Nat) (m : Mb) (hi : i ≤ l.length) : (insM l i m).take i ++ (insM l i m).drop (i + 1) = l := by
  have h1 : (l.take i).length = i := by simp [Nat.min_eq_left hi]
  have e1 : (insM l i m).take i = l.take i := by
    rw [insM, List.take_append_of_le_length (by omega), List.take_of_length_le (by omega)]
  have e2 : (insM l i m).drop (i + 1) = l.drop i := by
    rw [insM, show l.take i ++ m :: l.drop i = (l.take i ++ [m]) ++ l.drop i by simp, List.drop_append_of_le_length (by simp; omega), List.drop_of_length_le (by simp; omega)]
    rfl
  rw [e1, e2, List.take_append_drop]
theorem join_there {g : Grp} (h : chkG g = 0) {id : ByteArray} {now : Int} (h0 : (joinG g id now).2 = 0) : ((joinG g id now).1.ge ≤ g.ge + 1) ∧ (0 ≤ placeP id g.ms → (joinG g id now).1.ge = g.ge ∧ (joinG g id now).1.ms.length = g.ms.length) ∧
    (placeP id g.ms < 0 → g.ge < 1099511627775 → leaveG (joinG g id now).1 id = (⟨g.ge + 2, phaseP (offM g.ms), offM g.ms⟩, 0)) := by
  have hgood := good_join h h0
  unfold joinG at h0 hgood ⊢
  obtain ⟨c1, c2, c3, c4⟩ := chk0 h
  rw [if_neg (show ¬ (chkG g ≠ 0) by simpa using h)] at h0 hgood ⊢
  by_cases h1 : nameB id = false
  · rw [if_pos h1] at h0; simp at h0
  rw [if_neg h1] at h0 hgood ⊢
  by_cases h2 : timeB now = false
  · rw [if_pos h2] at h0; simp at h0
  rw [if_neg h2] at h0 hgood ⊢
  by_cases h3 : 0 ≤ placeP id g.ms
  · rw [if_pos h3]
    exact ⟨by simp only [seenG]; omega, fun _ => ⟨rfl, by simp [seenG]⟩, fun q => by omega⟩
  rw [if_neg h3] at h0 hgood ⊢
  by_cases h4 : 16 ≤ g.ms.length
  · rw [if_pos h4] at h0; simp at h0
  rw [if_neg h4] at h0 hgood ⊢
  by_cases h5 : 1099511627776 ≤ g.ge
  · rw [if_pos h5] at h0; simp at h0
  rw [if_neg h5] at hgood ⊢
  rw [wrap_ge c2] at hgood ⊢
  refine ⟨Int.le_refl _, fun q => absurd q h3, fun hp hlt => ?_⟩
  have hpl := posM_le id g.ms
  generalize posM id g.ms = i at hpl hgood ⊢
  have hx := hgood.chk
  unfold leaveG
  simp only at hx ⊢
  have c2' := c2
  simp only [timeB, Bool.and_eq_true, decide_eq_true_eq] at c2'
  have hw : IntKind.i64.wrap (g.ge + 1 + 1) = g.ge + 2 := by rw [IntKind.wrap_i64]; omega
  have e : (offM (insM g.ms i ⟨id, now, false⟩)).take i ++ (offM (insM g.ms i ⟨id, now, false⟩)).drop (i + 1) = offM g.ms := by
    rw [off_take, off_drop, ← off_app, ins_del _ _ _ hpl]
  rw [if_neg (show ¬ (chkG _ ≠ 0) by simpa using hx), place_ins hp i hpl now, if_neg (by omega), if_neg (by omega), hw, show ((i : Nat) : Int).toNat = i by omega, e, off_off]
theorem law_returns (l : List Ac) (id : ByteArray) (now : Int) : Pure Try.prog 9 [.sl 5 (AL l), .str id, .int .i64 now] (.sv (.bool true)) := by
  have e24 := RgK_24
  have e29 := RgK_29
  have e32 := RgK_32
  have e36 := RgK_36
  have hR := RgK_ok
  have hnf : RgK.nofz = false := rfl
  have haw := awake_pure
  generalize RgK = R at *
  refine pure_go hR Try.func9 Try.ntmps9 comp9 cres9 (by decide) (by simp) ?_
  by_cases h30 : 30 < (l.length : Int)
  · simp [ac9, ar9, h30, e24, haw, hnf]
  by_cases h60 : 60 < (id.size : Int)
  · have h60' : 60 < id.size := by omega
    simp [ac9, ar9, h30, h60, h60', e24, haw, hnf]
  have h60' : ¬ 60 < id.size := by omega
  have hl4 : l.length < 4611686018427387904 := by omega
  simp [ac9, ar9, h30, h60, h60', hnf]
  refine awpR_loop (α := Nat × Grp) (fun p => p.1 ≤ l.length ∧ chkG p.2 = 0 ∧ p.2.ge ≤ p.1) (fun p => { n := 162, sl := [(0, .sv (.sl 5 (AL l))), (1, .sv (.str id)), (2, .sv (.int .i64 now)), (7, .lptr 7 0), (8, .sv (.int .i64 p.1))], bx := [(7, [.sv (.int .i64 p.2.ge), .sv (.int .u8 p.2.ph), .sv (.sl 3 (ML p.2.ms))])], hp := fun _ => none })
    (fun p => l.length - p.1) (0, grp0) ⟨by omega, chk_grp0, by decide⟩ (by simp [grp0, ML]) ?_
  rintro ⟨i, g⟩ ⟨hi, hc, hgi⟩
  simp only at hi hc hgi ⊢
  obtain ⟨c1, c2, c3, c4⟩ := chk0 hc
  have hl1 : g.ms.length ≤ 999 := by omega
  have hl2 : g.ms.length ≤ 1000 := by omega
  by_cases h : i < l.length
  · have h1 : (i : Int) < l.length := by omega
    have hw := wrap_succ h hl4
    have hg := AL_get l h
    have hiA : i < (AL l).length := by simpa using h
    have hge : (AL l)[i] = (l.getD i ac0).sv := by rw [← hg, List.getElem?_eq_getElem hiA]; rfl
    generalize l.getD i ac0 = a at *
    by_cases hs : 60 < (a.id.size : Int)
    · have hs' : 60 < a.id.size := by omega
      simp [h, h1, hg, hge, Ac.sv, Ac.cells, hs, hs', e24, haw]
    have hs' : ¬ 60 < a.id.size := by omega
    have e29g := e29 g a.id a.now
    have j9 := @good_join g hc a.id a.now
    have k9 := @join_there g hc a.id a.now
    generalize joinG g a.id a.now = X at *
    obtain ⟨X, n⟩ := X
    simp only at e29g j9 k9
    by_cases hn : n = 0
    · subst hn
      obtain ⟨d1, d2, d3, d4⟩ := j9 rfl
      have k1 := (k9 rfl).1
      simp [h, h1, hg, hge, Ac.sv, Ac.cells, hs, hs', e29g, hl1, hw]
      exact ⟨i + 1, X, ⟨by omega, d1, by omega⟩, by omega, by omega, rfl, rfl, rfl⟩
    · have hn2 : (n == 0) = false := by simpa using hn
      simp [h, h1, hg, hge, Ac.sv, Ac.cells, hs, hs', e29g, hl1, hn, hn2, bne, hw]
      exact ⟨i + 1, g, ⟨by omega, hc, by omega⟩, by omega, by omega, rfl, rfl, rfl⟩
  · obtain rfl : i = l.length := by omega
    have e36g := e36 g id
    have e29g := e29 g id now
    have j9 := @good_join g hc id now
    have k9 := @join_there g hc id now
    have e32x := e32 (joinG g id now).1 id
    generalize joinG g id now = X at *
    obtain ⟨X, n⟩ := X
    simp only at e29g j9 k9 e32x
    by_cases hn : n = 0
    · subst hn
      obtain ⟨d1, d2, d3, d4⟩ := j9 rfl
      obtain ⟨k1, k2, k3⟩ := k9 rfl
      have hx : X.ms.length ≤ 16 := (chk0 d1).1
      obtain ⟨xa, xb, xl⟩ := X
      simp only at *
      have hx3 : xl.length ≤ 1000 := by omega
      unfold findG at e36g
      by_cases hp : placeP id g.ms < 0
      · rw [if_pos hp] at e36g
        have k3' := k3 hp (by omega)
        rw [k3'] at e32x
        have hw2 : IntKind.i64.wrap (g.ge + 2) = g.ge + 2 := by
          simp only [timeB, Bool.and_eq_true, decide_eq_true_eq] at c2
          rw [IntKind.wrap_i64]; omega
        simp only [mb0] at e36g
        have hol : (offM g.ms).length = g.ms.length := off_len _
        have hg4 : g.ms.length < 4611686018427387904 := by omega
        simp [e36g, e29g, e32x, hl1, hl2, hx3, hw2, hol]
        have hg4' : g.ms.length < 4611686018427387904 := by omega
        refine awpR_loop (α := Nat) (fun k => k ≤ g.ms.length) (fun k => { n := 162, sl := [(7, .lptr 7 0), (15, .lptr 15 0), (17, .sv (.int .i64 k))], bx := [(7, [.sv (.int .i64 g.ge), .sv (.int .u8 g.ph), .sv (.sl 3 (ML g.ms))]), (15, [.sv (.int .i64 (g.ge + 2)), .sv (.int .u8 (phaseP (offM g.ms))), .sv (.sl 3 (ML (offM g.ms)))])], hp := fun _ => none })
          (fun k => g.ms.length - k) 0 (by omega) (by simp) ?_
        intro k hk2
        by_cases h0 : k < g.ms.length
        · have h0' : (k : Int) < g.ms.length := by omega
          have hwk := wrap_succ h0 hg4'
          have hgx := ML_get g.ms h0
          have hxA : k < (ML g.ms).length := by simpa using h0
          have hgxe : (ML g.ms)[k] = (g.ms.getD k mb0).sv := by rw [← hgx, List.getElem?_eq_getElem hxA]; rfl
          have h0o : k < (offM g.ms).length := by rw [hol]; exact h0
          have hoy := ML_get (offM g.ms) h0o
          have hoA : k < (ML (offM g.ms)).length := by simpa using h0o
          have hoe : (ML (offM g.ms))[k] = ((offM g.ms).getD k mb0).sv := by rw [← hoy, List.getElem?_eq_getElem hoA]; rfl
          have hov : (offM g.ms).getD k mb0 = ⟨(g.ms.getD k mb0).id, (g.ms.getD k mb0).sn, false⟩ := by
            simp [offM, List.getD_eq_getElem?_getD, List.getElem?_eq_getElem h0]
          rw [hov] at hoy hoe
          generalize g.ms.getD k mb0 = r at *
          simp [h0, h0', h0o, hol, hgx, hgxe, hoy, hoe, Mb.sv, Mb.cells, hwk]
          exact ⟨k + 1, by omega, by omega, by omega⟩
        · obtain rfl : k = g.ms.length := by omega
          simp [e24, haw]
      · rw [if_neg hp] at e36g
        obtain ⟨k4, k5⟩ := k2 (by omega)
        subst k4
        simp [e36g, e29g, hl1, hl2, k5, e24, haw]
    · have hn2 : (n == 0) = false := by simpa using hn
      simp [e36g, e29g, hl1, hl2, hn, hn2, bne, e24, haw]
end Go.Proofs.Ytmfkliabjfngmaa
