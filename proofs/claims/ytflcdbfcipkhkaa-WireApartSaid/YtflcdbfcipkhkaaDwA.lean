import Derived.Test.YtflcdbfcipkhkaaAvL3
import Derived.Test.YtflcdbfcipkhkaaProg
import Derived.KernelRfl

set_option maxRecDepth 100000
namespace Go.Proofs.Ytflcdbfcipkhkaa
open Go.Av
/-- bilander/bilanderref22.LightRequest -/
def ac29 : AC :=
 (.seq
  (.reg [⟨(some 1), none, .box 18 (.t 0)⟩,
    ⟨(some 2), none, .mv (.c (.bool false))⟩])
  (.seq
   (.reg [⟨(some 3), none, .faddr (.t 1) 1⟩,
     ⟨(some 4), none, .load none (.t 3)⟩,
     ⟨(some 5), none, .len true (.t 4)⟩,
     ⟨(some 6), none, .bin .leq (.t 5) (.c (.int .i64 400))⟩,
     ⟨(some 7), none, .take 6⟩,
     ⟨(some 8), (some (7, true)), .faddr (.t 1) 9⟩,
     ⟨(some 9), (some (7, true)), .load none (.t 8)⟩,
     ⟨(some 10), (some (7, true)), .len true (.t 9)⟩,
     ⟨(some 11), (some (7, true)), .bin .leq (.t 10) (.c (.int .i64 400))⟩,
     ⟨(some 12), none, .pick (.t 7) (.t 11) (.c (.bool false))⟩,
     ⟨(some 13), none, .take 12⟩,
     ⟨(some 14), (some (13, true)), .faddr (.t 1) 10⟩,
     ⟨(some 15), (some (13, true)), .load none (.t 14)⟩,
     ⟨(some 16), (some (13, true)), .len true (.t 15)⟩,
     ⟨(some 17), (some (13, true)), .bin .leq (.t 16) (.c (.int .i64 400))⟩,
     ⟨(some 18), none, .pick (.t 13) (.t 17) (.c (.bool false))⟩,
     ⟨(some 19), none, .take 18⟩,
     ⟨(some 20), (some (19, true)), .faddr (.t 1) 12⟩,
     ⟨(some 21), (some (19, true)), .load (some 6) (.t 20)⟩,
     ⟨(some 22), (some (19, true)), .call 64 [(.t 21)]⟩,
     ⟨(some 23), none, .pick (.t 19) (.t 22) (.c (.bool false))⟩,
     ⟨(some 2), none, .take 23⟩])
   .ret))
def ar29 : List AR := [.t 2]
theorem comp29 : Try.f29.body.bind (comp Try.prog 24) = some ac29 := by kernel_rfl
theorem cres29 : compRes Try.prog Try.f29.results.toList = some ar29 := by kernel_rfl
/-- bilander/wire.PutRequest -/
def ac31 : AC :=
 (.seq
  (.reg [⟨(some 1), none, .box 18 (.t 0)⟩,
    ⟨(some 2), none, .mv (.c .nils)⟩,
    ⟨(some 3), none, .mv (.c (.int .i64 0))⟩])
  (.seq
   (.block 0
    (.seq
     (.reg [⟨(some 12), none, .faddr (.t 1) 0⟩,
       ⟨(some 13), none, .load none (.t 12)⟩,
       ⟨(some 14), none, .bin .gtr (.t 13) (.c (.int .u8 11))⟩,
       ⟨(some 11), none, .take 14⟩])
     (.cond (.t 11)
      (.seq
       (.reg [⟨(some 2), none, .mv (.c .nils)⟩,
         ⟨(some 3), none, .mv (.c (.int .i64 22))⟩])
       .ret)
      (.seq
       (.reg [⟨(some 16), none, .load (some 18) (.t 1)⟩,
         ⟨(some 17), none, .call 83 [(.t 16)]⟩,
         ⟨(some 15), none, .take 17⟩])
       (.cond (.t 15)
        (.seq
         (.reg [⟨(some 2), none, .mv (.c .nils)⟩,
           ⟨(some 3), none, .mv (.c (.int .i64 4))⟩])
         .ret)
        (.seq
         (.reg [⟨(some 19), none, .faddr (.t 1) 1⟩,
           ⟨(some 20), none, .load none (.t 19)⟩,
           ⟨(some 21), none, .len true (.t 20)⟩,
           ⟨(some 22), none, .faddr (.t 1) 9⟩,
           ⟨(some 23), none, .load none (.t 22)⟩,
           ⟨(some 24), none, .len true (.t 23)⟩,
           ⟨(some 25), none, .faddr (.t 1) 10⟩,
           ⟨(some 26), none, .load none (.t 25)⟩,
           ⟨(some 27), none, .len true (.t 26)⟩,
           ⟨(some 28), none, .minmax3 true (.t 21) (.t 24) (.t 27)⟩,
           ⟨(some 29), none, .bin .gtr (.t 28) (.c (.int .i64 255))⟩,
           ⟨(some 18), none, .take 29⟩])
         (.cond (.t 18)
          (.seq
           (.reg [⟨(some 2), none, .mv (.c .nils)⟩,
             ⟨(some 3), none, .mv (.c (.int .i64 5))⟩])
           .ret)
          .skip)))))))
   (.seq
    (.reg [⟨(some 4), none, .mv (.c .nils)⟩])
    (.seq
     (.seq
      (.reg [⟨(some 30), none, .faddr (.t 1) 0⟩,
        ⟨(some 31), none, .load none (.t 30)⟩,
        ⟨(some 32), none, .bin .eql (.t 31) (.c (.int .u8 3))⟩])
      (.cond (.t 32)
       (.seq
        (.reg [⟨(some 33), none, .faddr (.t 1) 12⟩,
          ⟨(some 34), none, .load (some 6) (.t 33)⟩,
          ⟨(some 5), none, .alloc [(.int .i64 0), (.int .i64 0), (.int .i64 0), (.int .i64 0), (.int .i64 0), .nils]⟩,
          ⟨none, none, .store 6 (.t 5) (.t 34)⟩])
        (.seq
         (.reg [⟨(some 35), none, .faddr (.t 5) 0⟩,
           ⟨none, none, .store 1 (.t 35) (.c (.int .i64 0))⟩])
         (.seq
          (.reg [⟨(some 37), none, .load (some 6) (.t 5)⟩,
            ⟨(some 38), none, .call 84 [(.t 37)]⟩,
            ⟨(some 36), none, .take 38⟩,
            ⟨(some 39), none, .ext 36 0⟩,
            ⟨(some 40), none, .ext 36 1⟩,
            ⟨(some 6), none, .take 39⟩,
            ⟨(some 7), none, .take 40⟩])
          (.seq
           (.seq
            (.reg [⟨(some 41), none, .mv (.t 7)⟩,
              ⟨(some 42), none, .bin .neq (.t 41) (.c (.int .i64 0))⟩])
            (.cond (.t 42)
             (.seq
              (.reg [⟨(some 43), none, .take 7⟩,
                ⟨(some 2), none, .mv (.c .nils)⟩,
                ⟨(some 3), none, .take 43⟩])
              .ret)
             .skip))
           (.seq
            (.seq
             (.reg [⟨(some 44), none, .faddr (.t 1) 12⟩,
               ⟨(some 45), none, .faddr (.t 44) 0⟩,
               ⟨(some 46), none, .load none (.t 45)⟩,
               ⟨(some 47), none, .bin .neq (.t 46) (.c (.int .i64 0))⟩])
             (.cond (.t 47)
              (.seq
               (.reg [⟨(some 2), none, .mv (.c .nils)⟩,
                 ⟨(some 3), none, .mv (.c (.int .i64 4))⟩])
               .ret)
              .skip))
            (.reg [⟨(some 48), none, .take 6⟩,
              ⟨(some 4), none, .take 48⟩]))))))
       .skip))
     (.seq
      (.reg [⟨(some 49), none, .faddr (.t 1) 0⟩,
        ⟨(some 50), none, .load none (.t 49)⟩,
        ⟨(some 51), none, .bsl 1 1 [(.int .u8 0)] [(0, (.t 50))]⟩,
        ⟨(some 8), none, .take 51⟩])
      (.seq
       (.seq
        (.reg [⟨(some 52), none, .faddr (.t 1) 0⟩,
          ⟨(some 53), none, .load none (.t 52)⟩,
          ⟨(some 54), none, .call 35 [(.t 53)]⟩,
          ⟨(some 55), none, .rng (.t 54)⟩])
        (.block 1
         (.loop
          (.seq
           (.reg [⟨(some 56), none, .nxt 55⟩,
             ⟨(some 57), none, .extS 56 0⟩])
           (.seq
            (.cond (.t 57)
             .skip
             (.exit 1))
            (.block 2
             (.seq
              (.reg [⟨(some 58), none, .ext 56 2⟩,
                ⟨(some 10), none, .take 58⟩])
              (.reg [⟨(some 59), none, .take 8⟩,
                ⟨(some 60), none, .load (some 18) (.t 1)⟩,
                ⟨(some 61), none, .mv (.t 10)⟩,
                ⟨(some 62), none, .mv (.t 4)⟩,
                ⟨(some 63), none, .call 85 [(.t 60), (.t 61), (.t 62)]⟩,
                ⟨(some 64), none, .app 1 1 59 (.t 63)⟩,
                ⟨(some 8), none, .take 64⟩]))))))))
       (.seq
        (.reg [⟨(some 65), none, .take 8⟩,
          ⟨(some 2), none, .take 65⟩,
          ⟨(some 3), none, .mv (.c (.int .i64 0))⟩])
        .ret)))))))
def ar31 : List AR := [.t 2, .t 3]
theorem comp31 : Try.f31.body.bind (comp Try.prog 66) = some ac31 := by kernel_rfl
theorem cres31 : compRes Try.prog Try.f31.results.toList = some ar31 := by kernel_rfl
/-- bilander/bilanderref22.Request -/
def ac32 : AC :=
 (.seq
  (.reg [⟨(some 1), none, .box 18 (.t 0)⟩,
    ⟨(some 2), none, .mv (.c .nils)⟩,
    ⟨(some 3), none, .mv (.c (.int .i64 0))⟩])
  (.seq
   (.block 0
    (.seq
     (.reg [⟨(some 12), none, .faddr (.t 1) 0⟩,
       ⟨(some 13), none, .load none (.t 12)⟩,
       ⟨(some 14), none, .bin .gtr (.t 13) (.c (.int .u8 11))⟩,
       ⟨(some 11), none, .take 14⟩])
     (.cond (.t 11)
      (.seq
       (.reg [⟨(some 2), none, .mv (.c .nils)⟩,
         ⟨(some 3), none, .mv (.c (.int .i64 22))⟩])
       .ret)
      (.seq
       (.dreg [] [⟨(some 16), none, .load (some 18) (.t 1)⟩,
         ⟨(some 17), none, .load (some 18) (.t 1)⟩,
         ⟨(some 18), none, .call 86 [(.t 17)]⟩,
         ⟨(some 19), none, .call 34 [(.t 16), (.t 18)]⟩,
         ⟨(some 20), none, .una .not (.t 19)⟩,
         ⟨(some 15), none, .take 20⟩])
       (.cond (.t 15)
        (.seq
         (.reg [⟨(some 2), none, .mv (.c .nils)⟩,
           ⟨(some 3), none, .mv (.c (.int .i64 4))⟩])
         .ret)
        (.seq
         (.reg [⟨(some 22), none, .faddr (.t 1) 1⟩,
           ⟨(some 23), none, .load none (.t 22)⟩,
           ⟨(some 24), none, .len true (.t 23)⟩,
           ⟨(some 25), none, .bin .gtr (.t 24) (.c (.int .i64 255))⟩,
           ⟨(some 26), none, .take 25⟩,
           ⟨(some 27), (some (26, false)), .faddr (.t 1) 9⟩,
           ⟨(some 28), (some (26, false)), .load none (.t 27)⟩,
           ⟨(some 29), (some (26, false)), .len true (.t 28)⟩,
           ⟨(some 30), (some (26, false)), .bin .gtr (.t 29) (.c (.int .i64 255))⟩,
           ⟨(some 31), none, .pick (.t 26) (.c (.bool true)) (.t 30)⟩,
           ⟨(some 32), none, .take 31⟩,
           ⟨(some 33), (some (32, false)), .faddr (.t 1) 10⟩,
           ⟨(some 34), (some (32, false)), .load none (.t 33)⟩,
           ⟨(some 35), (some (32, false)), .len true (.t 34)⟩,
           ⟨(some 36), (some (32, false)), .bin .gtr (.t 35) (.c (.int .i64 255))⟩,
           ⟨(some 37), none, .pick (.t 32) (.c (.bool true)) (.t 36)⟩,
           ⟨(some 21), none, .take 37⟩])
         (.cond (.t 21)
          (.seq
           (.reg [⟨(some 2), none, .mv (.c .nils)⟩,
             ⟨(some 3), none, .mv (.c (.int .i64 5))⟩])
           .ret)
          .skip)))))))
   (.seq
    (.reg [⟨(some 4), none, .mv (.c .nils)⟩])
    (.seq
     (.seq
      (.reg [⟨(some 38), none, .faddr (.t 1) 0⟩,
        ⟨(some 39), none, .load none (.t 38)⟩,
        ⟨(some 40), none, .bin .eql (.t 39) (.c (.int .u8 3))⟩])
      (.cond (.t 40)
       (.seq
        (.reg [⟨(some 41), none, .faddr (.t 1) 12⟩,
          ⟨(some 42), none, .load (some 6) (.t 41)⟩,
          ⟨(some 5), none, .alloc [(.int .i64 0), (.int .i64 0), (.int .i64 0), (.int .i64 0), (.int .i64 0), .nils]⟩,
          ⟨none, none, .store 6 (.t 5) (.t 42)⟩])
        (.seq
         (.reg [⟨(some 43), none, .faddr (.t 5) 0⟩,
           ⟨none, none, .store 1 (.t 43) (.c (.int .i64 0))⟩])
         (.seq
          (.reg [⟨(some 45), none, .load (some 6) (.t 5)⟩,
            ⟨(some 46), none, .call 87 [(.t 45)]⟩,
            ⟨(some 44), none, .take 46⟩,
            ⟨(some 47), none, .ext 44 0⟩,
            ⟨(some 48), none, .ext 44 1⟩,
            ⟨(some 6), none, .take 47⟩,
            ⟨(some 7), none, .take 48⟩])
          (.seq
           (.block 1
            (.seq
             (.reg [⟨(some 50), none, .mv (.t 7)⟩,
               ⟨(some 51), none, .bin .neq (.t 50) (.c (.int .i64 0))⟩,
               ⟨(some 49), none, .take 51⟩])
             (.cond (.t 49)
              (.seq
               (.reg [⟨(some 52), none, .take 7⟩,
                 ⟨(some 2), none, .mv (.c .nils)⟩,
                 ⟨(some 3), none, .take 52⟩])
               .ret)
              (.seq
               (.reg [⟨(some 54), none, .faddr (.t 1) 12⟩,
                 ⟨(some 55), none, .faddr (.t 54) 0⟩,
                 ⟨(some 56), none, .load none (.t 55)⟩,
                 ⟨(some 57), none, .bin .neq (.t 56) (.c (.int .i64 0))⟩,
                 ⟨(some 53), none, .take 57⟩])
               (.cond (.t 53)
                (.seq
                 (.reg [⟨(some 2), none, .mv (.c .nils)⟩,
                   ⟨(some 3), none, .mv (.c (.int .i64 4))⟩])
                 .ret)
                .skip)))))
           (.reg [⟨(some 58), none, .mv (.t 6)⟩,
             ⟨(some 59), none, .b2s (.t 58)⟩,
             ⟨(some 60), none, .call 28 [(.t 59)]⟩,
             ⟨(some 4), none, .take 60⟩])))))
       .skip))
     (.seq
      (.reg [⟨(some 61), none, .faddr (.t 1) 0⟩,
        ⟨(some 62), none, .load none (.t 61)⟩,
        ⟨(some 63), none, .call 36 [(.t 62)]⟩,
        ⟨(some 8), none, .take 63⟩])
      (.seq
       (.reg [⟨(some 64), none, .faddr (.t 1) 0⟩,
         ⟨(some 65), none, .load none (.t 64)⟩,
         ⟨(some 66), none, .bsl 1 1 [(.int .u8 0)] [(0, (.t 65))]⟩,
         ⟨(some 9), none, .take 66⟩])
       (.seq
        (.seq
         (.reg [⟨(some 10), none, .mv (.c (.int .i64 0))⟩])
         (.block 2
          (.loop
           (.seq
            (.seq
             (.reg [⟨(some 67), none, .mv (.t 10)⟩,
               ⟨(some 68), none, .mv (.t 8)⟩,
               ⟨(some 69), none, .len true (.t 68)⟩,
               ⟨(some 70), none, .bin .lss (.t 67) (.t 69)⟩])
             (.cond (.t 70)
              .skip
              (.exit 2)))
            (.seq
             (.block 3
              (.seq
               (.reg [⟨(some 73), none, .mv (.t 8)⟩,
                 ⟨(some 74), none, .mv (.t 10)⟩,
                 ⟨(some 75), none, .idx (.t 73) (.t 74)⟩])
               (.block 4
                (.seq
                 (.reg [⟨(some 80), none, .bin .eql (.t 75) (.c (.int .u8 116))⟩,
                   ⟨(some 79), none, .take 80⟩])
                 (.cond (.t 79)
                  (.reg [⟨(some 81), none, .take 9⟩,
                    ⟨(some 82), none, .faddr (.t 1) 1⟩,
                    ⟨(some 83), none, .load none (.t 82)⟩,
                    ⟨(some 84), none, .call 28 [(.t 83)]⟩,
                    ⟨(some 85), none, .app 1 1 81 (.t 84)⟩,
                    ⟨(some 9), none, .take 85⟩])
                  (.seq
                   (.reg [⟨(some 87), none, .bin .eql (.t 75) (.c (.int .u8 105))⟩,
                     ⟨(some 86), none, .take 87⟩])
                   (.cond (.t 86)
                    (.reg [⟨(some 88), none, .take 9⟩,
                      ⟨(some 89), none, .faddr (.t 1) 2⟩,
                      ⟨(some 90), none, .load none (.t 89)⟩,
                      ⟨(some 91), none, .call 82 [(.t 90)]⟩,
                      ⟨(some 92), none, .app 1 1 88 (.t 91)⟩,
                      ⟨(some 9), none, .take 92⟩])
                    (.seq
                     (.reg [⟨(some 94), none, .bin .eql (.t 75) (.c (.int .u8 112))⟩,
                       ⟨(some 93), none, .take 94⟩])
                     (.cond (.t 93)
                      (.reg [⟨(some 95), none, .take 9⟩,
                        ⟨(some 96), none, .faddr (.t 1) 3⟩,
                        ⟨(some 97), none, .load none (.t 96)⟩,
                        ⟨(some 98), none, .call 82 [(.t 97)]⟩,
                        ⟨(some 99), none, .app 1 1 95 (.t 98)⟩,
                        ⟨(some 9), none, .take 99⟩])
                      (.seq
                       (.reg [⟨(some 101), none, .bin .eql (.t 75) (.c (.int .u8 99))⟩,
                         ⟨(some 100), none, .take 101⟩])
                       (.cond (.t 100)
                        (.reg [⟨(some 102), none, .take 9⟩,
                          ⟨(some 103), none, .faddr (.t 1) 4⟩,
                          ⟨(some 104), none, .load none (.t 103)⟩,
                          ⟨(some 105), none, .call 88 [(.t 104)]⟩,
                          ⟨(some 106), none, .app 1 1 102 (.t 105)⟩,
                          ⟨(some 9), none, .take 106⟩])
                        (.seq
                         (.reg [⟨(some 108), none, .bin .eql (.t 75) (.c (.int .u8 102))⟩,
                           ⟨(some 107), none, .take 108⟩])
                         (.cond (.t 107)
                          (.reg [⟨(some 109), none, .take 9⟩,
                            ⟨(some 110), none, .faddr (.t 1) 5⟩,
                            ⟨(some 111), none, .load none (.t 110)⟩,
                            ⟨(some 112), none, .call 88 [(.t 111)]⟩,
                            ⟨(some 113), none, .app 1 1 109 (.t 112)⟩,
                            ⟨(some 9), none, .take 113⟩])
                          (.seq
                           (.reg [⟨(some 115), none, .bin .eql (.t 75) (.c (.int .u8 111))⟩,
                             ⟨(some 114), none, .take 115⟩])
                           (.cond (.t 114)
                            (.reg [⟨(some 116), none, .take 9⟩,
                              ⟨(some 117), none, .faddr (.t 1) 6⟩,
                              ⟨(some 118), none, .load none (.t 117)⟩,
                              ⟨(some 119), none, .call 82 [(.t 118)]⟩,
                              ⟨(some 120), none, .app 1 1 116 (.t 119)⟩,
                              ⟨(some 9), none, .take 120⟩])
                            (.seq
                             (.reg [⟨(some 122), none, .bin .eql (.t 75) (.c (.int .u8 109))⟩,
                               ⟨(some 121), none, .take 122⟩])
                             (.cond (.t 121)
                              (.reg [⟨(some 123), none, .take 9⟩,
                                ⟨(some 124), none, .faddr (.t 1) 7⟩,
                                ⟨(some 125), none, .load none (.t 124)⟩,
                                ⟨(some 126), none, .call 82 [(.t 125)]⟩,
                                ⟨(some 127), none, .app 1 1 123 (.t 126)⟩,
                                ⟨(some 9), none, .take 127⟩])
                              (.seq
                               (.reg [⟨(some 129), none, .bin .eql (.t 75) (.c (.int .u8 119))⟩,
                                 ⟨(some 128), none, .take 129⟩])
                               (.cond (.t 128)
                                (.reg [⟨(some 130), none, .take 9⟩,
                                  ⟨(some 131), none, .faddr (.t 1) 8⟩,
                                  ⟨(some 132), none, .load none (.t 131)⟩,
                                  ⟨(some 133), none, .call 82 [(.t 132)]⟩,
                                  ⟨(some 134), none, .app 1 1 130 (.t 133)⟩,
                                  ⟨(some 9), none, .take 134⟩])
                                (.seq
                                 (.reg [⟨(some 136), none, .bin .eql (.t 75) (.c (.int .u8 103))⟩,
                                   ⟨(some 135), none, .take 136⟩])
                                 (.cond (.t 135)
                                  (.reg [⟨(some 137), none, .take 9⟩,
                                    ⟨(some 138), none, .faddr (.t 1) 9⟩,
                                    ⟨(some 139), none, .load none (.t 138)⟩,
                                    ⟨(some 140), none, .call 28 [(.t 139)]⟩,
                                    ⟨(some 141), none, .app 1 1 137 (.t 140)⟩,
                                    ⟨(some 9), none, .take 141⟩])
                                  (.seq
                                   (.reg [⟨(some 143), none, .bin .eql (.t 75) (.c (.int .u8 107))⟩,
                                     ⟨(some 142), none, .take 143⟩])
                                   (.cond (.t 142)
                                    (.reg [⟨(some 144), none, .take 9⟩,
                                      ⟨(some 145), none, .faddr (.t 1) 10⟩,
                                      ⟨(some 146), none, .load none (.t 145)⟩,
                                      ⟨(some 147), none, .call 28 [(.t 146)]⟩,
                                      ⟨(some 148), none, .app 1 1 144 (.t 147)⟩,
                                      ⟨(some 9), none, .take 148⟩])
                                    (.seq
                                     (.reg [⟨(some 150), none, .bin .eql (.t 75) (.c (.int .u8 110))⟩,
                                       ⟨(some 149), none, .take 150⟩])
                                     (.cond (.t 149)
                                      (.reg [⟨(some 151), none, .take 9⟩,
                                        ⟨(some 152), none, .faddr (.t 1) 11⟩,
                                        ⟨(some 153), none, .load none (.t 152)⟩,
                                        ⟨(some 154), none, .call 82 [(.t 153)]⟩,
                                        ⟨(some 155), none, .app 1 1 151 (.t 154)⟩,
                                        ⟨(some 9), none, .take 155⟩])
                                      (.reg [⟨(some 76), none, .take 9⟩,
                                        ⟨(some 77), none, .mv (.t 4)⟩,
                                        ⟨(some 78), none, .app 1 1 76 (.t 77)⟩,
                                        ⟨(some 9), none, .take 78⟩]))))))))))))))))))))))))))
             (.reg [⟨(some 71), none, .take 10⟩,
               ⟨(some 72), none, .bin .add (.t 71) (.c (.int .i64 1))⟩,
               ⟨(some 10), none, .take 72⟩]))))))
        (.seq
         (.reg [⟨(some 156), none, .take 9⟩,
           ⟨(some 2), none, .take 156⟩,
           ⟨(some 3), none, .mv (.c (.int .i64 0))⟩])
         .ret))))))))
def ar32 : List AR := [.t 2, .t 3]
theorem comp32 : Try.f32.body.bind (comp Try.prog 157) = some ac32 := by kernel_rfl
theorem cres32 : compRes Try.prog Try.f32.results.toList = some ar32 := by kernel_rfl
/-- bilander/wire.SameRequest -/
def ac33 : AC :=
 (.seq
  (.reg [⟨(some 2), none, .box 18 (.t 0)⟩,
    ⟨(some 3), none, .box 18 (.t 1)⟩,
    ⟨(some 4), none, .mv (.c (.bool false))⟩])
  (.seq
   (.reg [⟨(some 5), none, .faddr (.t 2) 0⟩,
     ⟨(some 6), none, .load none (.t 5)⟩,
     ⟨(some 7), none, .faddr (.t 3) 0⟩,
     ⟨(some 8), none, .load none (.t 7)⟩,
     ⟨(some 9), none, .bin .eql (.t 6) (.t 8)⟩,
     ⟨(some 10), none, .take 9⟩,
     ⟨(some 11), (some (10, true)), .faddr (.t 2) 1⟩,
     ⟨(some 12), (some (10, true)), .load none (.t 11)⟩,
     ⟨(some 13), (some (10, true)), .faddr (.t 3) 1⟩,
     ⟨(some 14), (some (10, true)), .load none (.t 13)⟩,
     ⟨(some 15), (some (10, true)), .bin .eql (.t 12) (.t 14)⟩,
     ⟨(some 16), none, .pick (.t 10) (.t 15) (.c (.bool false))⟩,
     ⟨(some 17), none, .take 16⟩,
     ⟨(some 18), (some (17, true)), .faddr (.t 2) 2⟩,
     ⟨(some 19), (some (17, true)), .load none (.t 18)⟩,
     ⟨(some 20), (some (17, true)), .faddr (.t 3) 2⟩,
     ⟨(some 21), (some (17, true)), .load none (.t 20)⟩,
     ⟨(some 22), (some (17, true)), .bin .eql (.t 19) (.t 21)⟩,
     ⟨(some 23), none, .pick (.t 17) (.t 22) (.c (.bool false))⟩,
     ⟨(some 24), none, .take 23⟩,
     ⟨(some 25), (some (24, true)), .faddr (.t 2) 3⟩,
     ⟨(some 26), (some (24, true)), .load none (.t 25)⟩,
     ⟨(some 27), (some (24, true)), .faddr (.t 3) 3⟩,
     ⟨(some 28), (some (24, true)), .load none (.t 27)⟩,
     ⟨(some 29), (some (24, true)), .bin .eql (.t 26) (.t 28)⟩,
     ⟨(some 30), none, .pick (.t 24) (.t 29) (.c (.bool false))⟩,
     ⟨(some 31), none, .take 30⟩,
     ⟨(some 32), (some (31, true)), .faddr (.t 2) 4⟩,
     ⟨(some 33), (some (31, true)), .load none (.t 32)⟩,
     ⟨(some 34), (some (31, true)), .faddr (.t 3) 4⟩,
     ⟨(some 35), (some (31, true)), .load none (.t 34)⟩,
     ⟨(some 36), (some (31, true)), .beq false (.t 33) (.t 35)⟩,
     ⟨(some 37), none, .pick (.t 31) (.t 36) (.c (.bool false))⟩,
     ⟨(some 38), none, .take 37⟩,
     ⟨(some 39), (some (38, true)), .faddr (.t 2) 5⟩,
     ⟨(some 40), (some (38, true)), .load none (.t 39)⟩,
     ⟨(some 41), (some (38, true)), .faddr (.t 3) 5⟩,
     ⟨(some 42), (some (38, true)), .load none (.t 41)⟩,
     ⟨(some 43), (some (38, true)), .beq false (.t 40) (.t 42)⟩,
     ⟨(some 44), none, .pick (.t 38) (.t 43) (.c (.bool false))⟩,
     ⟨(some 45), none, .take 44⟩,
     ⟨(some 46), (some (45, true)), .faddr (.t 2) 6⟩,
     ⟨(some 47), (some (45, true)), .load none (.t 46)⟩,
     ⟨(some 48), (some (45, true)), .faddr (.t 3) 6⟩,
     ⟨(some 49), (some (45, true)), .load none (.t 48)⟩,
     ⟨(some 50), (some (45, true)), .bin .eql (.t 47) (.t 49)⟩,
     ⟨(some 51), none, .pick (.t 45) (.t 50) (.c (.bool false))⟩,
     ⟨(some 52), none, .take 51⟩,
     ⟨(some 53), (some (52, true)), .faddr (.t 2) 7⟩,
     ⟨(some 54), (some (52, true)), .load none (.t 53)⟩,
     ⟨(some 55), (some (52, true)), .faddr (.t 3) 7⟩,
     ⟨(some 56), (some (52, true)), .load none (.t 55)⟩,
     ⟨(some 57), (some (52, true)), .bin .eql (.t 54) (.t 56)⟩,
     ⟨(some 58), none, .pick (.t 52) (.t 57) (.c (.bool false))⟩,
     ⟨(some 59), none, .take 58⟩,
     ⟨(some 60), (some (59, true)), .faddr (.t 2) 8⟩,
     ⟨(some 61), (some (59, true)), .load none (.t 60)⟩,
     ⟨(some 62), (some (59, true)), .faddr (.t 3) 8⟩,
     ⟨(some 63), (some (59, true)), .load none (.t 62)⟩,
     ⟨(some 64), (some (59, true)), .bin .eql (.t 61) (.t 63)⟩,
     ⟨(some 65), none, .pick (.t 59) (.t 64) (.c (.bool false))⟩,
     ⟨(some 66), none, .take 65⟩,
     ⟨(some 67), (some (66, true)), .faddr (.t 2) 9⟩,
     ⟨(some 68), (some (66, true)), .load none (.t 67)⟩,
     ⟨(some 69), (some (66, true)), .faddr (.t 3) 9⟩,
     ⟨(some 70), (some (66, true)), .load none (.t 69)⟩,
     ⟨(some 71), (some (66, true)), .bin .eql (.t 68) (.t 70)⟩,
     ⟨(some 72), none, .pick (.t 66) (.t 71) (.c (.bool false))⟩,
     ⟨(some 73), none, .take 72⟩,
     ⟨(some 74), (some (73, true)), .faddr (.t 2) 10⟩,
     ⟨(some 75), (some (73, true)), .load none (.t 74)⟩,
     ⟨(some 76), (some (73, true)), .faddr (.t 3) 10⟩,
     ⟨(some 77), (some (73, true)), .load none (.t 76)⟩,
     ⟨(some 78), (some (73, true)), .bin .eql (.t 75) (.t 77)⟩,
     ⟨(some 79), none, .pick (.t 73) (.t 78) (.c (.bool false))⟩,
     ⟨(some 80), none, .take 79⟩,
     ⟨(some 81), (some (80, true)), .faddr (.t 2) 11⟩,
     ⟨(some 82), (some (80, true)), .load none (.t 81)⟩,
     ⟨(some 83), (some (80, true)), .faddr (.t 3) 11⟩,
     ⟨(some 84), (some (80, true)), .load none (.t 83)⟩,
     ⟨(some 85), (some (80, true)), .bin .eql (.t 82) (.t 84)⟩,
     ⟨(some 86), none, .pick (.t 80) (.t 85) (.c (.bool false))⟩,
     ⟨(some 87), none, .take 86⟩,
     ⟨(some 88), (some (87, true)), .faddr (.t 2) 12⟩,
     ⟨(some 89), (some (87, true)), .load (some 6) (.t 88)⟩,
     ⟨(some 90), (some (87, true)), .faddr (.t 3) 12⟩,
     ⟨(some 91), (some (87, true)), .load (some 6) (.t 90)⟩,
     ⟨(some 92), (some (87, true)), .call 69 [(.t 89), (.t 91)]⟩,
     ⟨(some 93), none, .pick (.t 87) (.t 92) (.c (.bool false))⟩,
     ⟨(some 4), none, .take 93⟩])
   .ret))
def ar33 : List AR := [.t 4]
theorem comp33 : Try.f33.body.bind (comp Try.prog 94) = some ac33 := by kernel_rfl
theorem cres33 : compRes Try.prog Try.f33.results.toList = some ar33 := by kernel_rfl
/-- bilander/bilanderref22.SameRequest -/
def ac34 : AC :=
 (.seq
  (.reg [⟨(some 2), none, .box 18 (.t 0)⟩,
    ⟨(some 3), none, .box 18 (.t 1)⟩,
    ⟨(some 4), none, .mv (.c (.bool false))⟩])
  (.seq
   (.seq
    (.reg [⟨(some 5), none, .faddr (.t 2) 0⟩,
      ⟨(some 6), none, .load none (.t 5)⟩,
      ⟨(some 7), none, .faddr (.t 3) 0⟩,
      ⟨(some 8), none, .load none (.t 7)⟩,
      ⟨(some 9), none, .bin .neq (.t 6) (.t 8)⟩,
      ⟨(some 10), none, .take 9⟩,
      ⟨(some 11), (some (10, false)), .faddr (.t 2) 1⟩,
      ⟨(some 12), (some (10, false)), .load none (.t 11)⟩,
      ⟨(some 13), (some (10, false)), .faddr (.t 3) 1⟩,
      ⟨(some 14), (some (10, false)), .load none (.t 13)⟩,
      ⟨(some 15), (some (10, false)), .bin .neq (.t 12) (.t 14)⟩,
      ⟨(some 16), none, .pick (.t 10) (.c (.bool true)) (.t 15)⟩,
      ⟨(some 17), none, .take 16⟩,
      ⟨(some 18), (some (17, false)), .faddr (.t 2) 2⟩,
      ⟨(some 19), (some (17, false)), .load none (.t 18)⟩,
      ⟨(some 20), (some (17, false)), .faddr (.t 3) 2⟩,
      ⟨(some 21), (some (17, false)), .load none (.t 20)⟩,
      ⟨(some 22), (some (17, false)), .bin .neq (.t 19) (.t 21)⟩,
      ⟨(some 23), none, .pick (.t 17) (.c (.bool true)) (.t 22)⟩,
      ⟨(some 24), none, .take 23⟩,
      ⟨(some 25), (some (24, false)), .faddr (.t 2) 3⟩,
      ⟨(some 26), (some (24, false)), .load none (.t 25)⟩,
      ⟨(some 27), (some (24, false)), .faddr (.t 3) 3⟩,
      ⟨(some 28), (some (24, false)), .load none (.t 27)⟩,
      ⟨(some 29), (some (24, false)), .bin .neq (.t 26) (.t 28)⟩,
      ⟨(some 30), none, .pick (.t 24) (.c (.bool true)) (.t 29)⟩,
      ⟨(some 31), none, .take 30⟩,
      ⟨(some 32), (some (31, false)), .faddr (.t 2) 4⟩,
      ⟨(some 33), (some (31, false)), .load none (.t 32)⟩,
      ⟨(some 34), (some (31, false)), .faddr (.t 3) 4⟩,
      ⟨(some 35), (some (31, false)), .load none (.t 34)⟩,
      ⟨(some 36), (some (31, false)), .beq true (.t 33) (.t 35)⟩,
      ⟨(some 37), none, .pick (.t 31) (.c (.bool true)) (.t 36)⟩,
      ⟨(some 38), none, .take 37⟩,
      ⟨(some 39), (some (38, false)), .faddr (.t 2) 5⟩,
      ⟨(some 40), (some (38, false)), .load none (.t 39)⟩,
      ⟨(some 41), (some (38, false)), .faddr (.t 3) 5⟩,
      ⟨(some 42), (some (38, false)), .load none (.t 41)⟩,
      ⟨(some 43), (some (38, false)), .beq true (.t 40) (.t 42)⟩,
      ⟨(some 44), none, .pick (.t 38) (.c (.bool true)) (.t 43)⟩,
      ⟨(some 45), none, .take 44⟩,
      ⟨(some 46), (some (45, false)), .faddr (.t 2) 6⟩,
      ⟨(some 47), (some (45, false)), .load none (.t 46)⟩,
      ⟨(some 48), (some (45, false)), .faddr (.t 3) 6⟩,
      ⟨(some 49), (some (45, false)), .load none (.t 48)⟩,
      ⟨(some 50), (some (45, false)), .bin .neq (.t 47) (.t 49)⟩,
      ⟨(some 51), none, .pick (.t 45) (.c (.bool true)) (.t 50)⟩,
      ⟨(some 52), none, .take 51⟩,
      ⟨(some 53), (some (52, false)), .faddr (.t 2) 7⟩,
      ⟨(some 54), (some (52, false)), .load none (.t 53)⟩,
      ⟨(some 55), (some (52, false)), .faddr (.t 3) 7⟩,
      ⟨(some 56), (some (52, false)), .load none (.t 55)⟩,
      ⟨(some 57), (some (52, false)), .bin .neq (.t 54) (.t 56)⟩,
      ⟨(some 58), none, .pick (.t 52) (.c (.bool true)) (.t 57)⟩,
      ⟨(some 59), none, .take 58⟩,
      ⟨(some 60), (some (59, false)), .faddr (.t 2) 8⟩,
      ⟨(some 61), (some (59, false)), .load none (.t 60)⟩,
      ⟨(some 62), (some (59, false)), .faddr (.t 3) 8⟩,
      ⟨(some 63), (some (59, false)), .load none (.t 62)⟩,
      ⟨(some 64), (some (59, false)), .bin .neq (.t 61) (.t 63)⟩,
      ⟨(some 65), none, .pick (.t 59) (.c (.bool true)) (.t 64)⟩])
    (.cond (.t 65)
     (.seq
      (.reg [⟨(some 4), none, .mv (.c (.bool false))⟩])
      .ret)
     .skip))
   (.seq
    (.reg [⟨(some 66), none, .faddr (.t 2) 9⟩,
      ⟨(some 67), none, .load none (.t 66)⟩,
      ⟨(some 68), none, .faddr (.t 3) 9⟩,
      ⟨(some 69), none, .load none (.t 68)⟩,
      ⟨(some 70), none, .bin .eql (.t 67) (.t 69)⟩,
      ⟨(some 71), none, .take 70⟩,
      ⟨(some 72), (some (71, true)), .faddr (.t 2) 10⟩,
      ⟨(some 73), (some (71, true)), .load none (.t 72)⟩,
      ⟨(some 74), (some (71, true)), .faddr (.t 3) 10⟩,
      ⟨(some 75), (some (71, true)), .load none (.t 74)⟩,
      ⟨(some 76), (some (71, true)), .bin .eql (.t 73) (.t 75)⟩,
      ⟨(some 77), none, .pick (.t 71) (.t 76) (.c (.bool false))⟩,
      ⟨(some 78), none, .take 77⟩,
      ⟨(some 79), (some (78, true)), .faddr (.t 2) 11⟩,
      ⟨(some 80), (some (78, true)), .load none (.t 79)⟩,
      ⟨(some 81), (some (78, true)), .faddr (.t 3) 11⟩,
      ⟨(some 82), (some (78, true)), .load none (.t 81)⟩,
      ⟨(some 83), (some (78, true)), .bin .eql (.t 80) (.t 82)⟩,
      ⟨(some 84), none, .pick (.t 78) (.t 83) (.c (.bool false))⟩,
      ⟨(some 85), none, .take 84⟩,
      ⟨(some 86), (some (85, true)), .faddr (.t 2) 12⟩,
      ⟨(some 87), (some (85, true)), .load (some 6) (.t 86)⟩,
      ⟨(some 88), (some (85, true)), .faddr (.t 3) 12⟩,
      ⟨(some 89), (some (85, true)), .load (some 6) (.t 88)⟩,
      ⟨(some 90), (some (85, true)), .call 89 [(.t 87), (.t 89)]⟩,
      ⟨(some 91), none, .pick (.t 85) (.t 90) (.c (.bool false))⟩,
      ⟨(some 4), none, .take 91⟩])
    .ret)))
def ar34 : List AR := [.t 4]
theorem comp34 : Try.f34.body.bind (comp Try.prog 92) = some ac34 := by kernel_rfl
theorem cres34 : compRes Try.prog Try.f34.results.toList = some ar34 := by kernel_rfl
/-- bilander/wire.Uses -/
def ac35 : AC :=
 (.seq
  (.reg [⟨(some 2), none, .mv (.c (.str (ByteArray.mk #[])))⟩])
  (.seq
   (.reg [⟨(some 4), none, .build [(.str (ByteArray.mk #[])), (.str (ByteArray.mk #[])), (.str (ByteArray.mk #[])), (.str (ByteArray.mk #[])), (.str (ByteArray.mk #[])), (.str (ByteArray.mk #[])), (.str (ByteArray.mk #[])), (.str (ByteArray.mk #[])), (.str (ByteArray.mk #[])), (.str (ByteArray.mk #[])), (.str (ByteArray.mk #[])), (.str (ByteArray.mk #[]))] [(0, 1, (.c (.str (ByteArray.mk #[116, 112, 99])))), (1, 1, (.c (.str (ByteArray.mk #[116])))), (2, 1, (.c (.str (ByteArray.mk #[116])))), (3, 1, (.c (.str (ByteArray.mk #[116, 105, 102, 98])))), (4, 1, (.c (.str (ByteArray.mk #[116, 105, 111, 109])))), (5, 1, (.c (.str (ByteArray.mk #[116, 105, 119])))), (6, 1, (.c (.str (ByteArray.mk #[103, 107])))), (7, 1, (.c (.str (ByteArray.mk #[116, 103, 107, 110])))), (8, 1, (.c (.str (ByteArray.mk #[103, 107, 110])))), (9, 1, (.c (.str (ByteArray.mk #[103, 107])))), (10, 1, (.c (.str (ByteArray.mk #[116, 105, 111, 103, 107, 110])))), (11, 1, (.c (.str (ByteArray.mk #[116, 105, 103]))))]⟩,
     ⟨(some 3), none, .alloc [(.str (ByteArray.mk #[])), (.str (ByteArray.mk #[])), (.str (ByteArray.mk #[])), (.str (ByteArray.mk #[])), (.str (ByteArray.mk #[])), (.str (ByteArray.mk #[])), (.str (ByteArray.mk #[])), (.str (ByteArray.mk #[])), (.str (ByteArray.mk #[])), (.str (ByteArray.mk #[])), (.str (ByteArray.mk #[])), (.str (ByteArray.mk #[]))]⟩,
     ⟨none, none, .store 12 (.t 3) (.t 4)⟩])
   (.seq
    (.seq
     (.reg [⟨(some 5), none, .mv (.t 0)⟩,
       ⟨(some 6), none, .conv .i64 (.t 5)⟩,
       ⟨(some 7), none, .bin .geq (.t 6) (.c (.int .i64 12))⟩])
     (.cond (.t 7)
      (.seq
       (.reg [⟨(some 2), none, .mv (.c (.str (ByteArray.mk #[])))⟩])
       .ret)
      .skip))
    (.seq
     (.reg [⟨(some 8), none, .mv (.t 0)⟩,
       ⟨(some 9), none, .iaddrA 12 1 (.t 3) (.t 8)⟩,
       ⟨(some 10), none, .load none (.t 9)⟩,
       ⟨(some 2), none, .take 10⟩])
     .ret))))
def ar35 : List AR := [.t 2]
theorem comp35 : Try.f35.body.bind (comp Try.prog 11) = some ac35 := by kernel_rfl
theorem cres35 : compRes Try.prog Try.f35.results.toList = some ar35 := by kernel_rfl
/-- bilander/bilanderref22.Uses -/
def ac36 : AC :=
 (.seq
  (.reg [⟨(some 2), none, .mv (.c (.str (ByteArray.mk #[])))⟩])
  (.seq
   (.seq
    (.reg [⟨(some 3), none, .mv (.t 0)⟩])
    (.block 0
     (.seq
      (.reg [⟨(some 5), none, .bin .eql (.t 3) (.c (.int .u8 0))⟩,
        ⟨(some 4), none, .take 5⟩])
      (.cond (.t 4)
       (.seq
        (.reg [⟨(some 2), none, .mv (.c (.str (ByteArray.mk #[116, 112, 99])))⟩])
        .ret)
       (.seq
        (.seq
         (.reg [⟨(some 7), none, .bin .eql (.t 3) (.c (.int .u8 1))⟩,
           ⟨(some 6), none, .take 7⟩])
         (.cond (.t 6)
          .skip
          (.reg [⟨(some 8), none, .bin .eql (.t 3) (.c (.int .u8 2))⟩,
            ⟨(some 6), none, .take 8⟩])))
        (.cond (.t 6)
         (.seq
          (.reg [⟨(some 2), none, .mv (.c (.str (ByteArray.mk #[116])))⟩])
          .ret)
         (.seq
          (.reg [⟨(some 10), none, .bin .eql (.t 3) (.c (.int .u8 3))⟩,
            ⟨(some 9), none, .take 10⟩])
          (.cond (.t 9)
           (.seq
            (.reg [⟨(some 2), none, .mv (.c (.str (ByteArray.mk #[116, 105, 102, 98])))⟩])
            .ret)
           (.seq
            (.reg [⟨(some 12), none, .bin .eql (.t 3) (.c (.int .u8 4))⟩,
              ⟨(some 11), none, .take 12⟩])
            (.cond (.t 11)
             (.seq
              (.reg [⟨(some 2), none, .mv (.c (.str (ByteArray.mk #[116, 105, 111, 109])))⟩])
              .ret)
             (.seq
              (.reg [⟨(some 14), none, .bin .eql (.t 3) (.c (.int .u8 5))⟩,
                ⟨(some 13), none, .take 14⟩])
              (.cond (.t 13)
               (.seq
                (.reg [⟨(some 2), none, .mv (.c (.str (ByteArray.mk #[116, 105, 119])))⟩])
                .ret)
               (.seq
                (.seq
                 (.reg [⟨(some 16), none, .bin .eql (.t 3) (.c (.int .u8 6))⟩,
                   ⟨(some 15), none, .take 16⟩])
                 (.cond (.t 15)
                  .skip
                  (.reg [⟨(some 17), none, .bin .eql (.t 3) (.c (.int .u8 9))⟩,
                    ⟨(some 15), none, .take 17⟩])))
                (.cond (.t 15)
                 (.seq
                  (.reg [⟨(some 2), none, .mv (.c (.str (ByteArray.mk #[103, 107])))⟩])
                  .ret)
                 (.seq
                  (.reg [⟨(some 19), none, .bin .eql (.t 3) (.c (.int .u8 7))⟩,
                    ⟨(some 18), none, .take 19⟩])
                  (.cond (.t 18)
                   (.seq
                    (.reg [⟨(some 2), none, .mv (.c (.str (ByteArray.mk #[116, 103, 107, 110])))⟩])
                    .ret)
                   (.seq
                    (.reg [⟨(some 21), none, .bin .eql (.t 3) (.c (.int .u8 8))⟩,
                      ⟨(some 20), none, .take 21⟩])
                    (.cond (.t 20)
                     (.seq
                      (.reg [⟨(some 2), none, .mv (.c (.str (ByteArray.mk #[103, 107, 110])))⟩])
                      .ret)
                     (.seq
                      (.reg [⟨(some 23), none, .bin .eql (.t 3) (.c (.int .u8 10))⟩,
                        ⟨(some 22), none, .take 23⟩])
                      (.cond (.t 22)
                       (.seq
                        (.reg [⟨(some 2), none, .mv (.c (.str (ByteArray.mk #[116, 105, 111, 103, 107, 110])))⟩])
                        .ret)
                       (.seq
                        (.reg [⟨(some 25), none, .bin .eql (.t 3) (.c (.int .u8 11))⟩,
                          ⟨(some 24), none, .take 25⟩])
                        (.cond (.t 24)
                         (.seq
                          (.reg [⟨(some 2), none, .mv (.c (.str (ByteArray.mk #[116, 105, 103])))⟩])
                          .ret)
                         .skip))))))))))))))))))))))
   (.seq
    (.reg [⟨(some 2), none, .mv (.c (.str (ByteArray.mk #[])))⟩])
    .ret)))
def ar36 : List AR := [.t 2]
theorem comp36 : Try.f36.body.bind (comp Try.prog 26) = some ac36 := by kernel_rfl
theorem cres36 : compRes Try.prog Try.f36.results.toList = some ar36 := by kernel_rfl
/-- bilander/bilanderref22.LightResponse -/
def ac37 : AC :=
 (.seq
  (.reg [⟨(some 1), none, .box 9 (.t 0)⟩,
    ⟨(some 2), none, .mv (.c (.bool false))⟩])
  (.seq
   (.seq
    (.reg [⟨(some 4), none, .faddr (.t 1) 7⟩,
      ⟨(some 5), none, .load none (.t 4)⟩,
      ⟨(some 6), none, .len false (.t 5)⟩,
      ⟨(some 7), none, .bin .gtr (.t 6) (.c (.int .i64 80))⟩,
      ⟨(some 8), none, .take 7⟩,
      ⟨(some 9), (some (8, false)), .faddr (.t 1) 8⟩,
      ⟨(some 10), (some (8, false)), .load none (.t 9)⟩,
      ⟨(some 11), (some (8, false)), .len false (.t 10)⟩,
      ⟨(some 12), (some (8, false)), .bin .gtr (.t 11) (.c (.int .i64 80))⟩,
      ⟨(some 13), none, .pick (.t 8) (.c (.bool true)) (.t 12)⟩,
      ⟨(some 14), none, .take 13⟩,
      ⟨(some 15), (some (14, false)), .faddr (.t 1) 6⟩,
      ⟨(some 16), (some (14, false)), .load none (.t 15)⟩,
      ⟨(some 17), (some (14, false)), .call 90 [(.t 16), (.c (.int .i64 70))]⟩,
      ⟨(some 18), (some (14, false)), .una .not (.t 17)⟩,
      ⟨(some 19), none, .pick (.t 14) (.c (.bool true)) (.t 18)⟩])
    (.cond (.t 19)
     (.seq
      (.reg [⟨(some 2), none, .mv (.c (.bool false))⟩])
      .ret)
     .skip))
   (.seq
    (.seq
     (.reg [⟨(some 3), none, .mv (.c (.int .i64 0))⟩])
     (.block 0
      (.loop
       (.seq
        (.seq
         (.reg [⟨(some 20), none, .mv (.t 3)⟩,
           ⟨(some 21), none, .faddr (.t 1) 8⟩,
           ⟨(some 22), none, .load none (.t 21)⟩,
           ⟨(some 23), none, .len false (.t 22)⟩,
           ⟨(some 24), none, .bin .lss (.t 20) (.t 23)⟩])
         (.cond (.t 24)
          .skip
          (.exit 0)))
        (.seq
         (.block 1
          (.seq
           (.reg [⟨(some 27), none, .faddr (.t 1) 8⟩,
             ⟨(some 28), none, .load none (.t 27)⟩,
             ⟨(some 29), none, .mv (.t 3)⟩,
             ⟨(some 30), none, .iaddr 1 (.t 28) (.t 29)⟩,
             ⟨(some 31), none, .load none (.t 30)⟩,
             ⟨(some 32), none, .len true (.t 31)⟩,
             ⟨(some 33), none, .bin .gtr (.t 32) (.c (.int .i64 400))⟩])
           (.cond (.t 33)
            (.seq
             (.reg [⟨(some 2), none, .mv (.c (.bool false))⟩])
             .ret)
            .skip)))
         (.reg [⟨(some 25), none, .take 3⟩,
           ⟨(some 26), none, .bin .add (.t 25) (.c (.int .i64 1))⟩,
           ⟨(some 3), none, .take 26⟩]))))))
    (.seq
     (.reg [⟨(some 2), none, .mv (.c (.bool true))⟩])
     .ret))))
def ar37 : List AR := [.t 2]
theorem comp37 : Try.f37.body.bind (comp Try.prog 34) = some ac37 := by kernel_rfl
theorem cres37 : compRes Try.prog Try.f37.results.toList = some ar37 := by kernel_rfl
/-- bilander/wire.PutResponse -/
def ac38 : AC :=
 (.seq
  (.reg [⟨(some 1), none, .box 9 (.t 0)⟩,
    ⟨(some 2), none, .mv (.c .nils)⟩,
    ⟨(some 3), none, .mv (.c (.int .i64 0))⟩])
  (.seq
   (.block 0
    (.seq
     (.reg [⟨(some 16), none, .faddr (.t 1) 0⟩,
       ⟨(some 17), none, .load none (.t 16)⟩,
       ⟨(some 18), none, .bin .gtr (.t 17) (.c (.int .u8 11))⟩,
       ⟨(some 19), none, .take 18⟩,
       ⟨(some 20), (some (19, true)), .faddr (.t 1) 0⟩,
       ⟨(some 21), (some (19, true)), .load none (.t 20)⟩,
       ⟨(some 22), (some (19, true)), .bin .neq (.t 21) (.c (.int .u8 255))⟩,
       ⟨(some 23), none, .pick (.t 19) (.t 22) (.c (.bool false))⟩,
       ⟨(some 15), none, .take 23⟩])
     (.cond (.t 15)
      (.seq
       (.reg [⟨(some 2), none, .mv (.c .nils)⟩,
         ⟨(some 3), none, .mv (.c (.int .i64 22))⟩])
       .ret)
      (.seq
       (.reg [⟨(some 25), none, .faddr (.t 1) 6⟩,
         ⟨(some 26), none, .load none (.t 25)⟩,
         ⟨(some 27), none, .len false (.t 26)⟩,
         ⟨(some 28), none, .faddr (.t 1) 7⟩,
         ⟨(some 29), none, .load none (.t 28)⟩,
         ⟨(some 30), none, .len false (.t 29)⟩,
         ⟨(some 31), none, .faddr (.t 1) 8⟩,
         ⟨(some 32), none, .load none (.t 31)⟩,
         ⟨(some 33), none, .len false (.t 32)⟩,
         ⟨(some 34), none, .minmax3 true (.t 27) (.t 30) (.t 33)⟩,
         ⟨(some 35), none, .bin .gtr (.t 34) (.c (.int .i64 64))⟩,
         ⟨(some 24), none, .take 35⟩])
       (.cond (.t 24)
        (.seq
         (.reg [⟨(some 2), none, .mv (.c .nils)⟩,
           ⟨(some 3), none, .mv (.c (.int .i64 5))⟩])
         .ret)
        (.seq
         (.reg [⟨(some 37), none, .faddr (.t 1) 8⟩,
           ⟨(some 38), none, .load none (.t 37)⟩,
           ⟨(some 39), none, .call 91 [(.t 38), (.c (.fn 92 [] []))]⟩,
           ⟨(some 36), none, .take 39⟩])
         (.cond (.t 36)
          (.seq
           (.reg [⟨(some 2), none, .mv (.c .nils)⟩,
             ⟨(some 3), none, .mv (.c (.int .i64 5))⟩])
           .ret)
          .skip)))))))
   (.seq
    (.reg [⟨(some 40), none, .faddr (.t 1) 0⟩,
      ⟨(some 41), none, .load none (.t 40)⟩,
      ⟨(some 42), none, .bsl 1 1 [(.int .u8 0)] [(0, (.t 41))]⟩,
      ⟨(some 4), none, .take 42⟩])
    (.seq
     (.seq
      (.reg [⟨(some 43), none, .faddr (.t 1) 1⟩,
        ⟨(some 44), none, .load none (.t 43)⟩,
        ⟨(some 45), none, .faddr (.t 1) 2⟩,
        ⟨(some 46), none, .load none (.t 45)⟩,
        ⟨(some 47), none, .faddr (.t 1) 3⟩,
        ⟨(some 48), none, .load none (.t 47)⟩,
        ⟨(some 49), none, .faddr (.t 1) 5⟩,
        ⟨(some 50), none, .load none (.t 49)⟩,
        ⟨(some 51), none, .build [(.int .i64 0), (.int .i64 0), (.int .i64 0), (.int .i64 0)] [(0, 1, (.t 44)), (1, 1, (.t 46)), (2, 1, (.t 48)), (3, 1, (.t 50))]⟩,
        ⟨(some 52), none, .mv (.c (.int .i64 0))⟩])
      (.block 1
       (.loop
        (.seq
         (.reg [⟨(some 53), none, .bin .lss (.t 52) (.c (.int .i64 4))⟩])
         (.seq
          (.cond (.t 53)
           .skip
           (.exit 1))
          (.seq
           (.block 2
            (.seq
             (.reg [⟨(some 54), none, .idxA 4 1 none (.t 51) (.t 52)⟩,
               ⟨(some 6), none, .take 54⟩])
             (.reg [⟨(some 55), none, .take 4⟩,
               ⟨(some 56), none, .mv (.t 6)⟩,
               ⟨(some 57), none, .call 71 [(.t 56)]⟩,
               ⟨(some 58), none, .app 1 1 55 (.t 57)⟩,
               ⟨(some 4), none, .take 58⟩])))
           (.reg [⟨(some 59), none, .bin .add (.t 52) (.c (.int .i64 1))⟩,
             ⟨(some 52), none, .take 59⟩])))))))
     (.seq
      (.reg [⟨(some 60), none, .take 4⟩,
        ⟨(some 61), none, .faddr (.t 1) 4⟩,
        ⟨(some 62), none, .load none (.t 61)⟩,
        ⟨(some 63), none, .call 93 [(.t 62)]⟩,
        ⟨(some 64), none, .app 1 1 60 (.t 63)⟩,
        ⟨(some 4), none, .take 64⟩])
      (.seq
       (.reg [⟨(some 65), none, .take 4⟩,
         ⟨(some 66), none, .faddr (.t 1) 6⟩,
         ⟨(some 67), none, .load none (.t 66)⟩,
         ⟨(some 68), none, .len false (.t 67)⟩,
         ⟨(some 69), none, .call 71 [(.t 68)]⟩,
         ⟨(some 70), none, .app 1 1 65 (.t 69)⟩,
         ⟨(some 4), none, .take 70⟩])
       (.seq
        (.seq
         (.reg [⟨(some 71), none, .faddr (.t 1) 6⟩,
           ⟨(some 72), none, .load none (.t 71)⟩,
           ⟨(some 73), none, .len false (.t 72)⟩,
           ⟨(some 74), none, .mv (.c (.int .i64 0))⟩])
         (.block 3
          (.loop
           (.seq
            (.reg [⟨(some 75), none, .bin .lss (.t 74) (.t 73)⟩])
            (.seq
             (.cond (.t 75)
              .skip
              (.exit 3))
             (.seq
              (.block 4
               (.seq
                (.reg [⟨(some 76), none, .iaddr 6 (.t 72) (.t 74)⟩,
                  ⟨(some 77), none, .load (some 6) (.t 76)⟩,
                  ⟨(some 8), none, .alloc [(.int .i64 0), (.int .i64 0), (.int .i64 0), (.int .i64 0), (.int .i64 0), .nils]⟩,
                  ⟨none, none, .store 6 (.t 8) (.t 77)⟩])
                (.seq
                 (.reg [⟨(some 79), none, .load (some 6) (.t 8)⟩,
                   ⟨(some 80), none, .call 84 [(.t 79)]⟩,
                   ⟨(some 78), none, .take 80⟩,
                   ⟨(some 81), none, .ext 78 0⟩,
                   ⟨(some 82), none, .ext 78 1⟩,
                   ⟨(some 9), none, .take 81⟩,
                   ⟨(some 10), none, .take 82⟩])
                 (.seq
                  (.seq
                   (.reg [⟨(some 83), none, .mv (.t 10)⟩,
                     ⟨(some 84), none, .bin .neq (.t 83) (.c (.int .i64 0))⟩])
                   (.cond (.t 84)
                    (.seq
                     (.reg [⟨(some 85), none, .take 10⟩,
                       ⟨(some 2), none, .mv (.c .nils)⟩,
                       ⟨(some 3), none, .take 85⟩])
                     .ret)
                    .skip))
                  (.reg [⟨(some 86), none, .take 4⟩,
                    ⟨(some 87), none, .mv (.t 9)⟩,
                    ⟨(some 88), none, .b2s (.t 87)⟩,
                    ⟨(some 89), none, .call 27 [(.t 88)]⟩,
                    ⟨(some 90), none, .app 1 1 86 (.t 89)⟩,
                    ⟨(some 4), none, .take 90⟩])))))
              (.reg [⟨(some 91), none, .bin .add (.t 74) (.c (.int .i64 1))⟩,
                ⟨(some 74), none, .take 91⟩])))))))
        (.seq
         (.reg [⟨(some 92), none, .take 4⟩,
           ⟨(some 93), none, .faddr (.t 1) 7⟩,
           ⟨(some 94), none, .load none (.t 93)⟩,
           ⟨(some 95), none, .len false (.t 94)⟩,
           ⟨(some 96), none, .call 71 [(.t 95)]⟩,
           ⟨(some 97), none, .app 1 1 92 (.t 96)⟩,
           ⟨(some 4), none, .take 97⟩])
         (.seq
          (.seq
           (.reg [⟨(some 98), none, .faddr (.t 1) 7⟩,
             ⟨(some 99), none, .load none (.t 98)⟩,
             ⟨(some 100), none, .len false (.t 99)⟩,
             ⟨(some 101), none, .mv (.c (.int .i64 0))⟩])
           (.block 5
            (.loop
             (.seq
              (.reg [⟨(some 102), none, .bin .lss (.t 101) (.t 100)⟩])
              (.seq
               (.cond (.t 102)
                .skip
                (.exit 5))
               (.seq
                (.block 6
                 (.seq
                  (.reg [⟨(some 103), none, .iaddr 1 (.t 99) (.t 101)⟩,
                    ⟨(some 104), none, .load none (.t 103)⟩,
                    ⟨(some 12), none, .take 104⟩])
                  (.reg [⟨(some 105), none, .take 4⟩,
                    ⟨(some 106), none, .mv (.t 12)⟩,
                    ⟨(some 107), none, .call 71 [(.t 106)]⟩,
                    ⟨(some 108), none, .app 1 1 105 (.t 107)⟩,
                    ⟨(some 4), none, .take 108⟩])))
                (.reg [⟨(some 109), none, .bin .add (.t 101) (.c (.int .i64 1))⟩,
                  ⟨(some 101), none, .take 109⟩])))))))
          (.seq
           (.reg [⟨(some 110), none, .take 4⟩,
             ⟨(some 111), none, .faddr (.t 1) 8⟩,
             ⟨(some 112), none, .load none (.t 111)⟩,
             ⟨(some 113), none, .len false (.t 112)⟩,
             ⟨(some 114), none, .call 71 [(.t 113)]⟩,
             ⟨(some 115), none, .app 1 1 110 (.t 114)⟩,
             ⟨(some 4), none, .take 115⟩])
           (.seq
            (.seq
             (.reg [⟨(some 116), none, .faddr (.t 1) 8⟩,
               ⟨(some 117), none, .load none (.t 116)⟩,
               ⟨(some 118), none, .len false (.t 117)⟩,
               ⟨(some 119), none, .mv (.c (.int .i64 0))⟩])
             (.block 7
              (.loop
               (.seq
                (.reg [⟨(some 120), none, .bin .lss (.t 119) (.t 118)⟩])
                (.seq
                 (.cond (.t 120)
                  .skip
                  (.exit 7))
                 (.seq
                  (.block 8
                   (.seq
                    (.reg [⟨(some 121), none, .iaddr 1 (.t 117) (.t 119)⟩,
                      ⟨(some 122), none, .load none (.t 121)⟩,
                      ⟨(some 14), none, .take 122⟩])
                    (.reg [⟨(some 123), none, .take 4⟩,
                      ⟨(some 124), none, .mv (.t 14)⟩,
                      ⟨(some 125), none, .call 27 [(.t 124)]⟩,
                      ⟨(some 126), none, .app 1 1 123 (.t 125)⟩,
                      ⟨(some 4), none, .take 126⟩])))
                  (.reg [⟨(some 127), none, .bin .add (.t 119) (.c (.int .i64 1))⟩,
                    ⟨(some 119), none, .take 127⟩])))))))
            (.seq
             (.reg [⟨(some 128), none, .take 4⟩,
               ⟨(some 2), none, .take 128⟩,
               ⟨(some 3), none, .mv (.c (.int .i64 0))⟩])
             .ret))))))))))))
def ar38 : List AR := [.t 2, .t 3]
theorem comp38 : Try.f38.body.bind (comp Try.prog 129) = some ac38 := by kernel_rfl
theorem cres38 : compRes Try.prog Try.f38.results.toList = some ar38 := by kernel_rfl
/-- bilander/bilanderref22.Response -/
def ac39 : AC :=
 (.seq
  (.reg [⟨(some 1), none, .box 9 (.t 0)⟩,
    ⟨(some 2), none, .mv (.c .nils)⟩,
    ⟨(some 3), none, .mv (.c (.int .i64 0))⟩])
  (.seq
   (.block 0
    (.seq
     (.reg [⟨(some 14), none, .faddr (.t 1) 0⟩,
       ⟨(some 15), none, .load none (.t 14)⟩,
       ⟨(some 16), none, .bin .gtr (.t 15) (.c (.int .u8 11))⟩,
       ⟨(some 17), none, .take 16⟩,
       ⟨(some 18), (some (17, true)), .faddr (.t 1) 0⟩,
       ⟨(some 19), (some (17, true)), .load none (.t 18)⟩,
       ⟨(some 20), (some (17, true)), .bin .neq (.t 19) (.c (.int .u8 255))⟩,
       ⟨(some 21), none, .pick (.t 17) (.t 20) (.c (.bool false))⟩,
       ⟨(some 13), none, .take 21⟩])
     (.cond (.t 13)
      (.seq
       (.reg [⟨(some 2), none, .mv (.c .nils)⟩,
         ⟨(some 3), none, .mv (.c (.int .i64 22))⟩])
       .ret)
      (.seq
       (.reg [⟨(some 23), none, .faddr (.t 1) 6⟩,
         ⟨(some 24), none, .load none (.t 23)⟩,
         ⟨(some 25), none, .len false (.t 24)⟩,
         ⟨(some 26), none, .bin .gtr (.t 25) (.c (.int .i64 64))⟩,
         ⟨(some 27), none, .take 26⟩,
         ⟨(some 28), (some (27, false)), .faddr (.t 1) 7⟩,
         ⟨(some 29), (some (27, false)), .load none (.t 28)⟩,
         ⟨(some 30), (some (27, false)), .len false (.t 29)⟩,
         ⟨(some 31), (some (27, false)), .bin .gtr (.t 30) (.c (.int .i64 64))⟩,
         ⟨(some 32), none, .pick (.t 27) (.c (.bool true)) (.t 31)⟩,
         ⟨(some 33), none, .take 32⟩,
         ⟨(some 34), (some (33, false)), .faddr (.t 1) 8⟩,
         ⟨(some 35), (some (33, false)), .load none (.t 34)⟩,
         ⟨(some 36), (some (33, false)), .len false (.t 35)⟩,
         ⟨(some 37), (some (33, false)), .bin .gtr (.t 36) (.c (.int .i64 64))⟩,
         ⟨(some 38), none, .pick (.t 33) (.c (.bool true)) (.t 37)⟩,
         ⟨(some 22), none, .take 38⟩])
       (.cond (.t 22)
        (.seq
         (.reg [⟨(some 2), none, .mv (.c .nils)⟩,
           ⟨(some 3), none, .mv (.c (.int .i64 5))⟩])
         .ret)
        .skip)))))
   (.seq
    (.seq
     (.reg [⟨(some 4), none, .mv (.c (.int .i64 0))⟩])
     (.block 1
      (.loop
       (.seq
        (.seq
         (.reg [⟨(some 39), none, .mv (.t 4)⟩,
           ⟨(some 40), none, .faddr (.t 1) 8⟩,
           ⟨(some 41), none, .load none (.t 40)⟩,
           ⟨(some 42), none, .len false (.t 41)⟩,
           ⟨(some 43), none, .bin .lss (.t 39) (.t 42)⟩])
         (.cond (.t 43)
          .skip
          (.exit 1)))
        (.seq
         (.block 2
          (.seq
           (.reg [⟨(some 46), none, .faddr (.t 1) 8⟩,
             ⟨(some 47), none, .load none (.t 46)⟩,
             ⟨(some 48), none, .mv (.t 4)⟩,
             ⟨(some 49), none, .iaddr 1 (.t 47) (.t 48)⟩,
             ⟨(some 50), none, .load none (.t 49)⟩,
             ⟨(some 51), none, .len true (.t 50)⟩,
             ⟨(some 52), none, .bin .gtr (.t 51) (.c (.int .i64 255))⟩])
           (.cond (.t 52)
            (.seq
             (.reg [⟨(some 2), none, .mv (.c .nils)⟩,
               ⟨(some 3), none, .mv (.c (.int .i64 5))⟩])
             .ret)
            .skip)))
         (.reg [⟨(some 44), none, .take 4⟩,
           ⟨(some 45), none, .bin .add (.t 44) (.c (.int .i64 1))⟩,
           ⟨(some 4), none, .take 45⟩]))))))
    (.seq
     (.reg [⟨(some 53), none, .faddr (.t 1) 0⟩,
       ⟨(some 54), none, .load none (.t 53)⟩,
       ⟨(some 55), none, .bsl 1 1 [(.int .u8 0)] [(0, (.t 54))]⟩,
       ⟨(some 5), none, .take 55⟩])
     (.seq
      (.reg [⟨(some 56), none, .faddr (.t 1) 1⟩,
        ⟨(some 57), none, .load none (.t 56)⟩,
        ⟨(some 58), none, .faddr (.t 1) 2⟩,
        ⟨(some 59), none, .load none (.t 58)⟩,
        ⟨(some 60), none, .faddr (.t 1) 3⟩,
        ⟨(some 61), none, .load none (.t 60)⟩,
        ⟨(some 62), none, .faddr (.t 1) 5⟩,
        ⟨(some 63), none, .load none (.t 62)⟩,
        ⟨(some 64), none, .bsl 1 4 [(.int .i64 0)] [(0, (.t 57)), (1, (.t 59)), (2, (.t 61)), (3, (.t 63))]⟩,
        ⟨(some 6), none, .take 64⟩])
      (.seq
       (.seq
        (.reg [⟨(some 7), none, .mv (.c (.int .i64 0))⟩])
        (.block 3
         (.loop
          (.seq
           (.seq
            (.reg [⟨(some 65), none, .mv (.t 7)⟩,
              ⟨(some 66), none, .mv (.t 6)⟩,
              ⟨(some 67), none, .len false (.t 66)⟩,
              ⟨(some 68), none, .bin .lss (.t 65) (.t 67)⟩])
            (.cond (.t 68)
             .skip
             (.exit 3)))
           (.seq
            (.block 4
             (.reg [⟨(some 71), none, .take 5⟩,
               ⟨(some 72), none, .mv (.t 6)⟩,
               ⟨(some 73), none, .mv (.t 7)⟩,
               ⟨(some 74), none, .iaddr 1 (.t 72) (.t 73)⟩,
               ⟨(some 75), none, .load none (.t 74)⟩,
               ⟨(some 76), none, .call 82 [(.t 75)]⟩,
               ⟨(some 77), none, .app 1 1 71 (.t 76)⟩,
               ⟨(some 5), none, .take 77⟩]))
            (.reg [⟨(some 69), none, .take 7⟩,
              ⟨(some 70), none, .bin .add (.t 69) (.c (.int .i64 1))⟩,
              ⟨(some 7), none, .take 70⟩]))))))
       (.seq
        (.reg [⟨(some 78), none, .take 5⟩,
          ⟨(some 79), none, .faddr (.t 1) 4⟩,
          ⟨(some 80), none, .load none (.t 79)⟩,
          ⟨(some 81), none, .call 88 [(.t 80)]⟩,
          ⟨(some 82), none, .app 1 1 78 (.t 81)⟩,
          ⟨(some 5), none, .take 82⟩])
        (.seq
         (.reg [⟨(some 83), none, .take 5⟩,
           ⟨(some 84), none, .faddr (.t 1) 6⟩,
           ⟨(some 85), none, .load none (.t 84)⟩,
           ⟨(some 86), none, .len false (.t 85)⟩,
           ⟨(some 87), none, .call 82 [(.t 86)]⟩,
           ⟨(some 88), none, .app 1 1 83 (.t 87)⟩,
           ⟨(some 5), none, .take 88⟩])
         (.seq
          (.seq
           (.reg [⟨(some 8), none, .mv (.c (.int .i64 0))⟩])
           (.block 5
            (.loop
             (.seq
              (.seq
               (.reg [⟨(some 89), none, .mv (.t 8)⟩,
                 ⟨(some 90), none, .faddr (.t 1) 6⟩,
                 ⟨(some 91), none, .load none (.t 90)⟩,
                 ⟨(some 92), none, .len false (.t 91)⟩,
                 ⟨(some 93), none, .bin .lss (.t 89) (.t 92)⟩])
               (.cond (.t 93)
                .skip
                (.exit 5)))
              (.seq
               (.block 6
                (.seq
                 (.reg [⟨(some 97), none, .faddr (.t 1) 6⟩,
                   ⟨(some 98), none, .load none (.t 97)⟩,
                   ⟨(some 99), none, .mv (.t 8)⟩,
                   ⟨(some 100), none, .iaddr 6 (.t 98) (.t 99)⟩,
                   ⟨(some 101), none, .load (some 6) (.t 100)⟩,
                   ⟨(some 102), none, .call 87 [(.t 101)]⟩,
                   ⟨(some 96), none, .take 102⟩,
                   ⟨(some 103), none, .ext 96 0⟩,
                   ⟨(some 104), none, .ext 96 1⟩,
                   ⟨(some 9), none, .take 103⟩,
                   ⟨(some 10), none, .take 104⟩])
                 (.seq
                  (.seq
                   (.reg [⟨(some 105), none, .mv (.t 10)⟩,
                     ⟨(some 106), none, .bin .neq (.t 105) (.c (.int .i64 0))⟩])
                   (.cond (.t 106)
                    (.seq
                     (.reg [⟨(some 107), none, .take 10⟩,
                       ⟨(some 2), none, .mv (.c .nils)⟩,
                       ⟨(some 3), none, .take 107⟩])
                     .ret)
                    .skip))
                  (.reg [⟨(some 108), none, .take 5⟩,
                    ⟨(some 109), none, .mv (.t 9)⟩,
                    ⟨(some 110), none, .b2s (.t 109)⟩,
                    ⟨(some 111), none, .call 28 [(.t 110)]⟩,
                    ⟨(some 112), none, .app 1 1 108 (.t 111)⟩,
                    ⟨(some 5), none, .take 112⟩]))))
               (.reg [⟨(some 94), none, .take 8⟩,
                 ⟨(some 95), none, .bin .add (.t 94) (.c (.int .i64 1))⟩,
                 ⟨(some 8), none, .take 95⟩]))))))
          (.seq
           (.reg [⟨(some 113), none, .take 5⟩,
             ⟨(some 114), none, .faddr (.t 1) 7⟩,
             ⟨(some 115), none, .load none (.t 114)⟩,
             ⟨(some 116), none, .len false (.t 115)⟩,
             ⟨(some 117), none, .call 82 [(.t 116)]⟩,
             ⟨(some 118), none, .app 1 1 113 (.t 117)⟩,
             ⟨(some 5), none, .take 118⟩])
           (.seq
            (.seq
             (.reg [⟨(some 11), none, .mv (.c (.int .i64 0))⟩])
             (.block 7
              (.loop
               (.seq
                (.seq
                 (.reg [⟨(some 119), none, .mv (.t 11)⟩,
                   ⟨(some 120), none, .faddr (.t 1) 7⟩,
                   ⟨(some 121), none, .load none (.t 120)⟩,
                   ⟨(some 122), none, .len false (.t 121)⟩,
                   ⟨(some 123), none, .bin .lss (.t 119) (.t 122)⟩])
                 (.cond (.t 123)
                  .skip
                  (.exit 7)))
                (.seq
                 (.block 8
                  (.reg [⟨(some 126), none, .take 5⟩,
                    ⟨(some 127), none, .faddr (.t 1) 7⟩,
                    ⟨(some 128), none, .load none (.t 127)⟩,
                    ⟨(some 129), none, .mv (.t 11)⟩,
                    ⟨(some 130), none, .iaddr 1 (.t 128) (.t 129)⟩,
                    ⟨(some 131), none, .load none (.t 130)⟩,
                    ⟨(some 132), none, .call 82 [(.t 131)]⟩,
                    ⟨(some 133), none, .app 1 1 126 (.t 132)⟩,
                    ⟨(some 5), none, .take 133⟩]))
                 (.reg [⟨(some 124), none, .take 11⟩,
                   ⟨(some 125), none, .bin .add (.t 124) (.c (.int .i64 1))⟩,
                   ⟨(some 11), none, .take 125⟩]))))))
            (.seq
             (.reg [⟨(some 134), none, .take 5⟩,
               ⟨(some 135), none, .faddr (.t 1) 8⟩,
               ⟨(some 136), none, .load none (.t 135)⟩,
               ⟨(some 137), none, .len false (.t 136)⟩,
               ⟨(some 138), none, .call 82 [(.t 137)]⟩,
               ⟨(some 139), none, .app 1 1 134 (.t 138)⟩,
               ⟨(some 5), none, .take 139⟩])
             (.seq
              (.seq
               (.reg [⟨(some 12), none, .mv (.c (.int .i64 0))⟩])
               (.block 9
                (.loop
                 (.seq
                  (.seq
                   (.reg [⟨(some 140), none, .mv (.t 12)⟩,
                     ⟨(some 141), none, .faddr (.t 1) 8⟩,
                     ⟨(some 142), none, .load none (.t 141)⟩,
                     ⟨(some 143), none, .len false (.t 142)⟩,
                     ⟨(some 144), none, .bin .lss (.t 140) (.t 143)⟩])
                   (.cond (.t 144)
                    .skip
                    (.exit 9)))
                  (.seq
                   (.block 10
                    (.reg [⟨(some 147), none, .take 5⟩,
                      ⟨(some 148), none, .faddr (.t 1) 8⟩,
                      ⟨(some 149), none, .load none (.t 148)⟩,
                      ⟨(some 150), none, .mv (.t 12)⟩,
                      ⟨(some 151), none, .iaddr 1 (.t 149) (.t 150)⟩,
                      ⟨(some 152), none, .load none (.t 151)⟩,
                      ⟨(some 153), none, .call 28 [(.t 152)]⟩,
                      ⟨(some 154), none, .app 1 1 147 (.t 153)⟩,
                      ⟨(some 5), none, .take 154⟩]))
                   (.reg [⟨(some 145), none, .take 12⟩,
                     ⟨(some 146), none, .bin .add (.t 145) (.c (.int .i64 1))⟩,
                     ⟨(some 12), none, .take 146⟩]))))))
              (.seq
               (.reg [⟨(some 155), none, .take 5⟩,
                 ⟨(some 2), none, .take 155⟩,
                 ⟨(some 3), none, .mv (.c (.int .i64 0))⟩])
               .ret))))))))))))))
def ar39 : List AR := [.t 2, .t 3]
theorem comp39 : Try.f39.body.bind (comp Try.prog 156) = some ac39 := by kernel_rfl
theorem cres39 : compRes Try.prog Try.f39.results.toList = some ar39 := by kernel_rfl
/-- bilander/wire.SameResponse -/
def ac40 : AC :=
 (.seq
  (.reg [⟨(some 2), none, .box 9 (.t 0)⟩,
    ⟨(some 3), none, .box 9 (.t 1)⟩,
    ⟨(some 4), none, .mv (.c (.bool false))⟩])
  (.seq
   (.reg [⟨(some 5), none, .faddr (.t 2) 0⟩,
     ⟨(some 6), none, .load none (.t 5)⟩,
     ⟨(some 7), none, .faddr (.t 3) 0⟩,
     ⟨(some 8), none, .load none (.t 7)⟩,
     ⟨(some 9), none, .bin .eql (.t 6) (.t 8)⟩,
     ⟨(some 10), none, .take 9⟩,
     ⟨(some 11), (some (10, true)), .faddr (.t 2) 1⟩,
     ⟨(some 12), (some (10, true)), .load none (.t 11)⟩,
     ⟨(some 13), (some (10, true)), .faddr (.t 3) 1⟩,
     ⟨(some 14), (some (10, true)), .load none (.t 13)⟩,
     ⟨(some 15), (some (10, true)), .bin .eql (.t 12) (.t 14)⟩,
     ⟨(some 16), none, .pick (.t 10) (.t 15) (.c (.bool false))⟩,
     ⟨(some 17), none, .take 16⟩,
     ⟨(some 18), (some (17, true)), .faddr (.t 2) 2⟩,
     ⟨(some 19), (some (17, true)), .load none (.t 18)⟩,
     ⟨(some 20), (some (17, true)), .faddr (.t 3) 2⟩,
     ⟨(some 21), (some (17, true)), .load none (.t 20)⟩,
     ⟨(some 22), (some (17, true)), .bin .eql (.t 19) (.t 21)⟩,
     ⟨(some 23), none, .pick (.t 17) (.t 22) (.c (.bool false))⟩,
     ⟨(some 24), none, .take 23⟩,
     ⟨(some 25), (some (24, true)), .faddr (.t 2) 3⟩,
     ⟨(some 26), (some (24, true)), .load none (.t 25)⟩,
     ⟨(some 27), (some (24, true)), .faddr (.t 3) 3⟩,
     ⟨(some 28), (some (24, true)), .load none (.t 27)⟩,
     ⟨(some 29), (some (24, true)), .bin .eql (.t 26) (.t 28)⟩,
     ⟨(some 30), none, .pick (.t 24) (.t 29) (.c (.bool false))⟩,
     ⟨(some 31), none, .take 30⟩,
     ⟨(some 32), (some (31, true)), .faddr (.t 2) 4⟩,
     ⟨(some 33), (some (31, true)), .load none (.t 32)⟩,
     ⟨(some 34), (some (31, true)), .faddr (.t 3) 4⟩,
     ⟨(some 35), (some (31, true)), .load none (.t 34)⟩,
     ⟨(some 36), (some (31, true)), .beq false (.t 33) (.t 35)⟩,
     ⟨(some 37), none, .pick (.t 31) (.t 36) (.c (.bool false))⟩,
     ⟨(some 38), none, .take 37⟩,
     ⟨(some 39), (some (38, true)), .faddr (.t 2) 5⟩,
     ⟨(some 40), (some (38, true)), .load none (.t 39)⟩,
     ⟨(some 41), (some (38, true)), .faddr (.t 3) 5⟩,
     ⟨(some 42), (some (38, true)), .load none (.t 41)⟩,
     ⟨(some 43), (some (38, true)), .bin .eql (.t 40) (.t 42)⟩,
     ⟨(some 44), none, .pick (.t 38) (.t 43) (.c (.bool false))⟩,
     ⟨(some 45), none, .take 44⟩,
     ⟨(some 46), (some (45, true)), .faddr (.t 2) 6⟩,
     ⟨(some 47), (some (45, true)), .load none (.t 46)⟩,
     ⟨(some 48), (some (45, true)), .faddr (.t 3) 6⟩,
     ⟨(some 49), (some (45, true)), .load none (.t 48)⟩,
     ⟨(some 50), (some (45, true)), .call 94 [(.t 47), (.t 49), (.c (.fn 69 [] []))]⟩,
     ⟨(some 51), none, .pick (.t 45) (.t 50) (.c (.bool false))⟩,
     ⟨(some 52), none, .take 51⟩,
     ⟨(some 53), (some (52, true)), .faddr (.t 2) 7⟩,
     ⟨(some 54), (some (52, true)), .load none (.t 53)⟩,
     ⟨(some 55), (some (52, true)), .faddr (.t 3) 7⟩,
     ⟨(some 56), (some (52, true)), .load none (.t 55)⟩,
     ⟨(some 57), (some (52, true)), .call 95 [(.t 54), (.t 56)]⟩,
     ⟨(some 58), none, .pick (.t 52) (.t 57) (.c (.bool false))⟩,
     ⟨(some 59), none, .take 58⟩,
     ⟨(some 60), (some (59, true)), .faddr (.t 2) 8⟩,
     ⟨(some 61), (some (59, true)), .load none (.t 60)⟩,
     ⟨(some 62), (some (59, true)), .faddr (.t 3) 8⟩,
     ⟨(some 63), (some (59, true)), .load none (.t 62)⟩,
     ⟨(some 64), (some (59, true)), .call 96 [(.t 61), (.t 63)]⟩,
     ⟨(some 65), none, .pick (.t 59) (.t 64) (.c (.bool false))⟩,
     ⟨(some 4), none, .take 65⟩])
   .ret))
def ar40 : List AR := [.t 4]
theorem comp40 : Try.f40.body.bind (comp Try.prog 66) = some ac40 := by kernel_rfl
theorem cres40 : compRes Try.prog Try.f40.results.toList = some ar40 := by kernel_rfl
/-- bilander/bilanderref22.SameResponse -/
def ac41 : AC :=
 (.seq
  (.reg [⟨(some 2), none, .box 9 (.t 0)⟩,
    ⟨(some 3), none, .box 9 (.t 1)⟩,
    ⟨(some 4), none, .mv (.c (.bool false))⟩])
  (.seq
   (.seq
    (.reg [⟨(some 7), none, .faddr (.t 2) 0⟩,
      ⟨(some 8), none, .load none (.t 7)⟩,
      ⟨(some 9), none, .faddr (.t 3) 0⟩,
      ⟨(some 10), none, .load none (.t 9)⟩,
      ⟨(some 11), none, .bin .neq (.t 8) (.t 10)⟩,
      ⟨(some 12), none, .take 11⟩,
      ⟨(some 13), (some (12, false)), .faddr (.t 2) 1⟩,
      ⟨(some 14), (some (12, false)), .load none (.t 13)⟩,
      ⟨(some 15), (some (12, false)), .faddr (.t 3) 1⟩,
      ⟨(some 16), (some (12, false)), .load none (.t 15)⟩,
      ⟨(some 17), (some (12, false)), .bin .neq (.t 14) (.t 16)⟩,
      ⟨(some 18), none, .pick (.t 12) (.c (.bool true)) (.t 17)⟩,
      ⟨(some 19), none, .take 18⟩,
      ⟨(some 20), (some (19, false)), .faddr (.t 2) 2⟩,
      ⟨(some 21), (some (19, false)), .load none (.t 20)⟩,
      ⟨(some 22), (some (19, false)), .faddr (.t 3) 2⟩,
      ⟨(some 23), (some (19, false)), .load none (.t 22)⟩,
      ⟨(some 24), (some (19, false)), .bin .neq (.t 21) (.t 23)⟩,
      ⟨(some 25), none, .pick (.t 19) (.c (.bool true)) (.t 24)⟩,
      ⟨(some 26), none, .take 25⟩,
      ⟨(some 27), (some (26, false)), .faddr (.t 2) 3⟩,
      ⟨(some 28), (some (26, false)), .load none (.t 27)⟩,
      ⟨(some 29), (some (26, false)), .faddr (.t 3) 3⟩,
      ⟨(some 30), (some (26, false)), .load none (.t 29)⟩,
      ⟨(some 31), (some (26, false)), .bin .neq (.t 28) (.t 30)⟩,
      ⟨(some 32), none, .pick (.t 26) (.c (.bool true)) (.t 31)⟩,
      ⟨(some 33), none, .take 32⟩,
      ⟨(some 34), (some (33, false)), .faddr (.t 2) 4⟩,
      ⟨(some 35), (some (33, false)), .load none (.t 34)⟩,
      ⟨(some 36), (some (33, false)), .faddr (.t 3) 4⟩,
      ⟨(some 37), (some (33, false)), .load none (.t 36)⟩,
      ⟨(some 38), (some (33, false)), .beq true (.t 35) (.t 37)⟩,
      ⟨(some 39), none, .pick (.t 33) (.c (.bool true)) (.t 38)⟩,
      ⟨(some 40), none, .take 39⟩,
      ⟨(some 41), (some (40, false)), .faddr (.t 2) 5⟩,
      ⟨(some 42), (some (40, false)), .load none (.t 41)⟩,
      ⟨(some 43), (some (40, false)), .faddr (.t 3) 5⟩,
      ⟨(some 44), (some (40, false)), .load none (.t 43)⟩,
      ⟨(some 45), (some (40, false)), .bin .neq (.t 42) (.t 44)⟩,
      ⟨(some 46), none, .pick (.t 40) (.c (.bool true)) (.t 45)⟩,
      ⟨(some 47), none, .take 46⟩,
      ⟨(some 48), (some (47, false)), .faddr (.t 2) 7⟩,
      ⟨(some 49), (some (47, false)), .load none (.t 48)⟩,
      ⟨(some 50), (some (47, false)), .len false (.t 49)⟩,
      ⟨(some 51), (some (47, false)), .faddr (.t 3) 7⟩,
      ⟨(some 52), (some (47, false)), .load none (.t 51)⟩,
      ⟨(some 53), (some (47, false)), .len false (.t 52)⟩,
      ⟨(some 54), (some (47, false)), .bin .neq (.t 50) (.t 53)⟩,
      ⟨(some 55), none, .pick (.t 47) (.c (.bool true)) (.t 54)⟩,
      ⟨(some 56), none, .take 55⟩,
      ⟨(some 57), (some (56, false)), .faddr (.t 2) 8⟩,
      ⟨(some 58), (some (56, false)), .load none (.t 57)⟩,
      ⟨(some 59), (some (56, false)), .len false (.t 58)⟩,
      ⟨(some 60), (some (56, false)), .faddr (.t 3) 8⟩,
      ⟨(some 61), (some (56, false)), .load none (.t 60)⟩,
      ⟨(some 62), (some (56, false)), .len false (.t 61)⟩,
      ⟨(some 63), (some (56, false)), .bin .neq (.t 59) (.t 62)⟩,
      ⟨(some 64), none, .pick (.t 56) (.c (.bool true)) (.t 63)⟩])
    (.cond (.t 64)
     (.seq
      (.reg [⟨(some 4), none, .mv (.c (.bool false))⟩])
      .ret)
     .skip))
   (.seq
    (.seq
     (.reg [⟨(some 5), none, .mv (.c (.int .i64 0))⟩])
     (.block 0
      (.loop
       (.seq
        (.seq
         (.reg [⟨(some 65), none, .mv (.t 5)⟩,
           ⟨(some 66), none, .faddr (.t 2) 7⟩,
           ⟨(some 67), none, .load none (.t 66)⟩,
           ⟨(some 68), none, .len false (.t 67)⟩,
           ⟨(some 69), none, .bin .lss (.t 65) (.t 68)⟩])
         (.cond (.t 69)
          .skip
          (.exit 0)))
        (.seq
         (.block 1
          (.seq
           (.dreg [] [⟨(some 72), none, .faddr (.t 2) 7⟩,
             ⟨(some 73), none, .load none (.t 72)⟩,
             ⟨(some 74), none, .mv (.t 5)⟩,
             ⟨(some 75), none, .iaddr 1 (.t 73) (.t 74)⟩,
             ⟨(some 76), none, .load none (.t 75)⟩,
             ⟨(some 77), none, .faddr (.t 3) 7⟩,
             ⟨(some 78), none, .load none (.t 77)⟩,
             ⟨(some 79), none, .mv (.t 5)⟩,
             ⟨(some 80), none, .iaddr 1 (.t 78) (.t 79)⟩,
             ⟨(some 81), none, .load none (.t 80)⟩,
             ⟨(some 82), none, .bin .neq (.t 76) (.t 81)⟩])
           (.cond (.t 82)
            (.seq
             (.reg [⟨(some 4), none, .mv (.c (.bool false))⟩])
             .ret)
            .skip)))
         (.reg [⟨(some 70), none, .take 5⟩,
           ⟨(some 71), none, .bin .add (.t 70) (.c (.int .i64 1))⟩,
           ⟨(some 5), none, .take 71⟩]))))))
    (.seq
     (.seq
      (.reg [⟨(some 6), none, .mv (.c (.int .i64 0))⟩])
      (.block 2
       (.loop
        (.seq
         (.seq
          (.reg [⟨(some 83), none, .mv (.t 6)⟩,
            ⟨(some 84), none, .faddr (.t 2) 8⟩,
            ⟨(some 85), none, .load none (.t 84)⟩,
            ⟨(some 86), none, .len false (.t 85)⟩,
            ⟨(some 87), none, .bin .lss (.t 83) (.t 86)⟩])
          (.cond (.t 87)
           .skip
           (.exit 2)))
         (.seq
          (.block 3
           (.seq
            (.dreg [] [⟨(some 90), none, .faddr (.t 2) 8⟩,
              ⟨(some 91), none, .load none (.t 90)⟩,
              ⟨(some 92), none, .mv (.t 6)⟩,
              ⟨(some 93), none, .iaddr 1 (.t 91) (.t 92)⟩,
              ⟨(some 94), none, .load none (.t 93)⟩,
              ⟨(some 95), none, .faddr (.t 3) 8⟩,
              ⟨(some 96), none, .load none (.t 95)⟩,
              ⟨(some 97), none, .mv (.t 6)⟩,
              ⟨(some 98), none, .iaddr 1 (.t 96) (.t 97)⟩,
              ⟨(some 99), none, .load none (.t 98)⟩,
              ⟨(some 100), none, .bin .neq (.t 94) (.t 99)⟩])
            (.cond (.t 100)
             (.seq
              (.reg [⟨(some 4), none, .mv (.c (.bool false))⟩])
              .ret)
             .skip)))
          (.reg [⟨(some 88), none, .take 6⟩,
            ⟨(some 89), none, .bin .add (.t 88) (.c (.int .i64 1))⟩,
            ⟨(some 6), none, .take 89⟩]))))))
     (.seq
      (.reg [⟨(some 101), none, .faddr (.t 2) 6⟩,
        ⟨(some 102), none, .load none (.t 101)⟩,
        ⟨(some 103), none, .faddr (.t 3) 6⟩,
        ⟨(some 104), none, .load none (.t 103)⟩,
        ⟨(some 105), none, .call 49 [(.t 102), (.t 104)]⟩,
        ⟨(some 4), none, .take 105⟩])
      .ret)))))
def ar41 : List AR := [.t 4]
theorem comp41 : Try.f41.body.bind (comp Try.prog 106) = some ac41 := by kernel_rfl
theorem cres41 : compRes Try.prog Try.f41.results.toList = some ar41 := by kernel_rfl
/-- bilander/wire.GetRequest -/
def ac42 : AC :=
 (.seq
  (.reg [⟨(some 2), none, .alloc [(.int .u8 0), (.str (ByteArray.mk #[])), (.int .i64 0), (.int .i64 0), (.bool false), (.bool false), (.int .i64 0), (.int .i64 0), (.int .i64 0), (.str (ByteArray.mk #[])), (.str (ByteArray.mk #[])), (.int .i64 0), (.int .i64 0), (.int .i64 0), (.int .i64 0), (.int .i64 0), (.int .i64 0), .nils]⟩,
    ⟨(some 3), none, .mv (.c (.int .i64 0))⟩])
  (.seq
   (.reg [⟨(some 10), none, .mv (.t 0)⟩,
     ⟨(some 11), none, .callN 16 [(.t 10)]⟩,
     ⟨(some 4), none, .take 11⟩])
   (.seq
    (.reg [⟨(some 12), none, .mv (.t 4)⟩,
      ⟨(some 13), none, .callE 20 (.t 12) [(.c (.int .i64 1))]⟩,
      ⟨(some 14), none, .conv .u8 (.t 13)⟩,
      ⟨(some 15), none, .build [(.int .u8 0), (.str (ByteArray.mk #[])), (.int .i64 0), (.int .i64 0), (.bool false), (.bool false), (.int .i64 0), (.int .i64 0), (.int .i64 0), (.str (ByteArray.mk #[])), (.str (ByteArray.mk #[])), (.int .i64 0), (.int .i64 0), (.int .i64 0), (.int .i64 0), (.int .i64 0), (.int .i64 0), .nils] [(0, 1, (.t 14))]⟩,
      ⟨(some 5), none, .alloc [(.int .u8 0), (.str (ByteArray.mk #[])), (.int .i64 0), (.int .i64 0), (.bool false), (.bool false), (.int .i64 0), (.int .i64 0), (.int .i64 0), (.str (ByteArray.mk #[])), (.str (ByteArray.mk #[])), (.int .i64 0), (.int .i64 0), (.int .i64 0), (.int .i64 0), (.int .i64 0), (.int .i64 0), .nils]⟩,
      ⟨none, none, .store 18 (.t 5) (.t 15)⟩])
    (.seq
     (.seq
      (.reg [⟨(some 16), none, .faddr (.t 5) 0⟩,
        ⟨(some 17), none, .load none (.t 16)⟩,
        ⟨(some 18), none, .call 35 [(.t 17)]⟩,
        ⟨(some 19), none, .rng (.t 18)⟩])
      (.block 0
       (.loop
        (.seq
         (.reg [⟨(some 20), none, .nxt 19⟩,
           ⟨(some 21), none, .extS 20 0⟩])
         (.seq
          (.cond (.t 21)
           .skip
           (.exit 0))
          (.block 1
           (.seq
            (.reg [⟨(some 22), none, .ext 20 2⟩,
              ⟨(some 7), none, .take 22⟩])
            (.reg [⟨(some 23), none, .mv (.t 4)⟩,
              ⟨(some 24), none, .mv (.t 7)⟩,
              ⟨(some 25), none, .callE 97 (.t 23) [(.t 5), (.t 24)]⟩]))))))))
     (.seq
      (.seq
       (.reg [⟨(some 27), none, .load (some 18) (.t 5)⟩,
         ⟨(some 28), none, .call 31 [(.t 27)]⟩,
         ⟨(some 26), none, .take 28⟩,
         ⟨(some 29), none, .ext 26 0⟩,
         ⟨(some 30), none, .ext 26 1⟩,
         ⟨(some 8), none, .take 29⟩,
         ⟨(some 9), none, .take 30⟩])
       (.seq
        (.reg [⟨(some 31), none, .mv (.t 9)⟩,
          ⟨(some 32), none, .bin .neq (.t 31) (.c (.int .i64 0))⟩,
          ⟨(some 33), none, .take 32⟩,
          ⟨(some 34), (some (33, false)), .mv (.t 8)⟩,
          ⟨(some 35), (some (33, false)), .mv (.t 0)⟩,
          ⟨(some 36), (some (33, false)), .call 98 [(.t 34), (.t 35)]⟩,
          ⟨(some 37), (some (33, false)), .una .not (.t 36)⟩,
          ⟨(some 38), none, .pick (.t 33) (.c (.bool true)) (.t 37)⟩])
        (.cond (.t 38)
         (.seq
          (.reg [⟨(some 39), none, .build [(.int .u8 0), (.str (ByteArray.mk #[])), (.int .i64 0), (.int .i64 0), (.bool false), (.bool false), (.int .i64 0), (.int .i64 0), (.int .i64 0), (.str (ByteArray.mk #[])), (.str (ByteArray.mk #[])), (.int .i64 0), (.int .i64 0), (.int .i64 0), (.int .i64 0), (.int .i64 0), (.int .i64 0), .nils] []⟩,
            ⟨none, none, .store 18 (.t 2) (.t 39)⟩,
            ⟨(some 3), none, .mv (.c (.int .i64 4))⟩])
          .ret)
         .skip)))
      (.seq
       (.reg [⟨(some 40), none, .load (some 18) (.t 5)⟩,
         ⟨none, none, .store 18 (.t 2) (.t 40)⟩,
         ⟨(some 3), none, .mv (.c (.int .i64 0))⟩])
       .ret))))))
def ar42 : List AR := [.c 2 (some 18), .t 3]
theorem comp42 : Try.f42.body.bind (comp Try.prog 41) = some ac42 := by kernel_rfl
theorem cres42 : compRes Try.prog Try.f42.results.toList = some ar42 := by kernel_rfl
/-- bilander/bilanderref22.GetRequest -/
def ac43 : AC :=
 (.seq
  (.reg [⟨(some 2), none, .alloc [(.int .u8 0), (.str (ByteArray.mk #[])), (.int .i64 0), (.int .i64 0), (.bool false), (.bool false), (.int .i64 0), (.int .i64 0), (.int .i64 0), (.str (ByteArray.mk #[])), (.str (ByteArray.mk #[])), (.int .i64 0), (.int .i64 0), (.int .i64 0), (.int .i64 0), (.int .i64 0), (.int .i64 0), .nils]⟩,
    ⟨(some 3), none, .mv (.c (.int .i64 0))⟩])
  (.seq
   (.reg [⟨(some 12), none, .mv (.t 0)⟩,
     ⟨(some 13), none, .build [.nils, (.int .i64 0)] [(0, 1, (.t 12))]⟩,
     ⟨(some 14), none, .call 19 [(.t 13), (.c (.int .i64 1))]⟩,
     ⟨(some 11), none, .take 14⟩,
     ⟨(some 15), none, .extS 11 0⟩,
     ⟨(some 16), none, .ext 11 1⟩,
     ⟨(some 4), none, .alloc [.nils, (.int .i64 0)]⟩,
     ⟨none, none, .store 2 (.t 4) (.t 15)⟩,
     ⟨(some 5), none, .take 16⟩])
   (.seq
    (.reg [⟨(some 17), none, .mv (.t 5)⟩,
      ⟨(some 18), none, .conv .u8 (.t 17)⟩,
      ⟨(some 19), none, .build [(.int .u8 0), (.str (ByteArray.mk #[])), (.int .i64 0), (.int .i64 0), (.bool false), (.bool false), (.int .i64 0), (.int .i64 0), (.int .i64 0), (.str (ByteArray.mk #[])), (.str (ByteArray.mk #[])), (.int .i64 0), (.int .i64 0), (.int .i64 0), (.int .i64 0), (.int .i64 0), (.int .i64 0), .nils] [(0, 1, (.t 18))]⟩,
      ⟨(some 6), none, .alloc [(.int .u8 0), (.str (ByteArray.mk #[])), (.int .i64 0), (.int .i64 0), (.bool false), (.bool false), (.int .i64 0), (.int .i64 0), (.int .i64 0), (.str (ByteArray.mk #[])), (.str (ByteArray.mk #[])), (.int .i64 0), (.int .i64 0), (.int .i64 0), (.int .i64 0), (.int .i64 0), (.int .i64 0), .nils]⟩,
      ⟨none, none, .store 18 (.t 6) (.t 19)⟩])
    (.seq
     (.reg [⟨(some 20), none, .faddr (.t 6) 0⟩,
       ⟨(some 21), none, .load none (.t 20)⟩,
       ⟨(some 22), none, .call 36 [(.t 21)]⟩,
       ⟨(some 7), none, .take 22⟩])
     (.seq
      (.seq
       (.reg [⟨(some 8), none, .mv (.c (.int .i64 0))⟩])
       (.block 0
        (.loop
         (.seq
          (.seq
           (.reg [⟨(some 23), none, .mv (.t 8)⟩,
             ⟨(some 24), none, .mv (.t 7)⟩,
             ⟨(some 25), none, .len true (.t 24)⟩,
             ⟨(some 26), none, .bin .lss (.t 23) (.t 25)⟩])
           (.cond (.t 26)
            .skip
            (.exit 0)))
          (.seq
           (.block 1
            (.dreg [] [⟨(some 30), none, .load (some 2) (.t 4)⟩,
              ⟨(some 31), none, .load (some 18) (.t 6)⟩,
              ⟨(some 32), none, .mv (.t 7)⟩,
              ⟨(some 33), none, .mv (.t 8)⟩,
              ⟨(some 34), none, .idx (.t 32) (.t 33)⟩,
              ⟨(some 35), none, .call 99 [(.t 30), (.t 31), (.t 34)]⟩,
              ⟨(some 29), none, .mv (.t 35)⟩,
              ⟨(some 36), none, .extS 29 0⟩,
              ⟨(some 37), none, .extS 29 1⟩,
              ⟨none, none, .store 2 (.t 4) (.t 36)⟩,
              ⟨none, none, .store 18 (.t 6) (.t 37)⟩]))
           (.reg [⟨(some 27), none, .take 8⟩,
             ⟨(some 28), none, .bin .add (.t 27) (.c (.int .i64 1))⟩,
             ⟨(some 8), none, .take 28⟩]))))))
      (.seq
       (.reg [⟨(some 39), none, .load (some 18) (.t 6)⟩,
         ⟨(some 40), none, .call 32 [(.t 39)]⟩,
         ⟨(some 38), none, .take 40⟩,
         ⟨(some 41), none, .ext 38 0⟩,
         ⟨(some 42), none, .ext 38 1⟩,
         ⟨(some 9), none, .take 41⟩,
         ⟨(some 10), none, .take 42⟩])
       (.seq
        (.seq
         (.reg [⟨(some 43), none, .mv (.t 10)⟩,
           ⟨(some 44), none, .bin .neq (.t 43) (.c (.int .i64 0))⟩,
           ⟨(some 45), none, .take 44⟩,
           ⟨(some 46), (some (45, false)), .mv (.t 9)⟩,
           ⟨(some 47), (some (45, false)), .b2s (.t 46)⟩,
           ⟨(some 48), (some (45, false)), .mv (.t 0)⟩,
           ⟨(some 49), (some (45, false)), .b2s (.t 48)⟩,
           ⟨(some 50), (some (45, false)), .bin .neq (.t 47) (.t 49)⟩,
           ⟨(some 51), none, .pick (.t 45) (.c (.bool true)) (.t 50)⟩])
         (.cond (.t 51)
          (.seq
           (.reg [⟨(some 52), none, .build [(.int .u8 0), (.str (ByteArray.mk #[])), (.int .i64 0), (.int .i64 0), (.bool false), (.bool false), (.int .i64 0), (.int .i64 0), (.int .i64 0), (.str (ByteArray.mk #[])), (.str (ByteArray.mk #[])), (.int .i64 0), (.int .i64 0), (.int .i64 0), (.int .i64 0), (.int .i64 0), (.int .i64 0), .nils] []⟩,
             ⟨none, none, .store 18 (.t 2) (.t 52)⟩,
             ⟨(some 3), none, .mv (.c (.int .i64 4))⟩])
           .ret)
          .skip))
        (.seq
         (.reg [⟨(some 53), none, .load (some 18) (.t 6)⟩,
           ⟨none, none, .store 18 (.t 2) (.t 53)⟩,
           ⟨(some 3), none, .mv (.c (.int .i64 0))⟩])
         .ret))))))))
def ar43 : List AR := [.c 2 (some 18), .t 3]
theorem comp43 : Try.f43.body.bind (comp Try.prog 54) = some ac43 := by kernel_rfl
theorem cres43 : compRes Try.prog Try.f43.results.toList = some ar43 := by kernel_rfl
/-- bilander/wire.GetResponse -/
def ac44 : AC :=
 (.seq
  (.reg [⟨(some 2), none, .alloc [(.int .u8 0), (.int .i64 0), (.int .i64 0), (.int .i64 0), (.bool false), (.int .i64 0), .nils, .nils, .nils]⟩,
    ⟨(some 3), none, .mv (.c (.int .i64 0))⟩])
  (.seq
   (.reg [⟨(some 8), none, .mv (.t 0)⟩,
     ⟨(some 9), none, .callN 16 [(.t 8)]⟩,
     ⟨(some 4), none, .alloc [.nilp]⟩,
     ⟨none, none, .store 1 (.t 4) (.t 9)⟩])
   (.seq
    (.dreg [] [⟨(some 10), none, .loadP (.t 4)⟩,
      ⟨(some 11), none, .callE 20 (.t 10) [(.c (.int .i64 1))]⟩,
      ⟨(some 12), none, .conv .u8 (.t 11)⟩,
      ⟨(some 13), none, .loadP (.t 4)⟩,
      ⟨(some 14), none, .callE 18 (.t 13) []⟩,
      ⟨(some 15), none, .loadP (.t 4)⟩,
      ⟨(some 16), none, .callE 18 (.t 15) []⟩,
      ⟨(some 17), none, .loadP (.t 4)⟩,
      ⟨(some 18), none, .callE 18 (.t 17) []⟩,
      ⟨(some 19), none, .loadP (.t 4)⟩,
      ⟨(some 20), none, .callE 18 (.t 19) []⟩,
      ⟨(some 21), none, .loadP (.t 4)⟩,
      ⟨(some 22), none, .callE 20 (.t 21) [(.c (.int .i64 1))]⟩,
      ⟨(some 23), none, .bin .eql (.t 22) (.c (.int .u64 1))⟩,
      ⟨(some 24), none, .build [(.int .u8 0), (.int .i64 0), (.int .i64 0), (.int .i64 0), (.bool false), (.int .i64 0), .nils, .nils, .nils] [(0, 1, (.t 12)), (1, 1, (.t 14)), (2, 1, (.t 16)), (3, 1, (.t 18)), (5, 1, (.t 20)), (4, 1, (.t 23))]⟩,
      ⟨(some 5), none, .alloc [(.int .u8 0), (.int .i64 0), (.int .i64 0), (.int .i64 0), (.bool false), (.int .i64 0), .nils, .nils, .nils]⟩,
      ⟨none, none, .store 9 (.t 5) (.t 24)⟩])
    (.seq
     (.seq
      (.frz [4])
      (.reg [⟨(some 25), none, .load none (.t 4)⟩,
        ⟨(some 26), none, .mkfn 101 [] [(.t 4)]⟩,
        ⟨(some 27), none, .callE 100 (.t 25) [(.t 26)]⟩,
        ⟨(some 28), none, .faddr (.t 5) 6⟩,
        ⟨none, none, .store 1 (.t 28) (.t 27)⟩]))
     (.seq
      (.reg [⟨(some 29), none, .load none (.t 4)⟩,
        ⟨(some 30), none, .load none (.t 4)⟩,
        ⟨(some 31), none, .mkfn 18 [(.t 30)] []⟩,
        ⟨(some 32), none, .callE 103 (.t 29) [(.t 31)]⟩,
        ⟨(some 33), none, .faddr (.t 5) 7⟩,
        ⟨none, none, .store 1 (.t 33) (.t 32)⟩])
      (.seq
       (.seq
        (.frz [4])
        (.reg [⟨(some 34), none, .load none (.t 4)⟩,
          ⟨(some 35), none, .mkfn 105 [] [(.t 4)]⟩,
          ⟨(some 36), none, .callE 104 (.t 34) [(.t 35)]⟩,
          ⟨(some 37), none, .faddr (.t 5) 8⟩,
          ⟨none, none, .store 1 (.t 37) (.t 36)⟩]))
       (.seq
        (.seq
         (.reg [⟨(some 39), none, .load (some 9) (.t 5)⟩,
           ⟨(some 40), none, .call 38 [(.t 39)]⟩,
           ⟨(some 38), none, .take 40⟩,
           ⟨(some 41), none, .ext 38 0⟩,
           ⟨(some 42), none, .ext 38 1⟩,
           ⟨(some 6), none, .take 41⟩,
           ⟨(some 7), none, .take 42⟩])
         (.seq
          (.reg [⟨(some 43), none, .mv (.t 7)⟩,
            ⟨(some 44), none, .bin .neq (.t 43) (.c (.int .i64 0))⟩,
            ⟨(some 45), none, .take 44⟩,
            ⟨(some 46), (some (45, false)), .mv (.t 6)⟩,
            ⟨(some 47), (some (45, false)), .mv (.t 0)⟩,
            ⟨(some 48), (some (45, false)), .call 98 [(.t 46), (.t 47)]⟩,
            ⟨(some 49), (some (45, false)), .una .not (.t 48)⟩,
            ⟨(some 50), none, .pick (.t 45) (.c (.bool true)) (.t 49)⟩])
          (.cond (.t 50)
           (.seq
            (.reg [⟨(some 51), none, .build [(.int .u8 0), (.int .i64 0), (.int .i64 0), (.int .i64 0), (.bool false), (.int .i64 0), .nils, .nils, .nils] []⟩,
              ⟨none, none, .store 9 (.t 2) (.t 51)⟩,
              ⟨(some 3), none, .mv (.c (.int .i64 4))⟩])
            .ret)
           .skip)))
        (.seq
         (.reg [⟨(some 52), none, .load (some 9) (.t 5)⟩,
           ⟨none, none, .store 9 (.t 2) (.t 52)⟩,
           ⟨(some 3), none, .mv (.c (.int .i64 0))⟩])
         .ret))))))))
def ar44 : List AR := [.c 2 (some 9), .t 3]
theorem comp44 : Try.f44.body.bind (comp Try.prog 53) = some ac44 := by kernel_rfl
theorem cres44 : compRes Try.prog Try.f44.results.toList = some ar44 := by kernel_rfl
/-- bilander/bilanderref22.GetResponse -/
def ac45 : AC :=
 (.seq
  (.reg [⟨(some 2), none, .alloc [(.int .u8 0), (.int .i64 0), (.int .i64 0), (.int .i64 0), (.bool false), (.int .i64 0), .nils, .nils, .nils]⟩,
    ⟨(some 3), none, .mv (.c (.int .i64 0))⟩])
  (.seq
   (.reg [⟨(some 19), none, .mv (.t 0)⟩,
     ⟨(some 20), none, .build [.nils, (.int .i64 0)] [(0, 1, (.t 19))]⟩,
     ⟨(some 21), none, .call 19 [(.t 20), (.c (.int .i64 1))]⟩,
     ⟨(some 18), none, .take 21⟩,
     ⟨(some 22), none, .extS 18 0⟩,
     ⟨(some 23), none, .ext 18 1⟩,
     ⟨(some 4), none, .alloc [.nils, (.int .i64 0)]⟩,
     ⟨none, none, .store 2 (.t 4) (.t 22)⟩,
     ⟨(some 5), none, .take 23⟩])
   (.seq
    (.reg [⟨(some 24), none, .mv (.t 5)⟩,
      ⟨(some 25), none, .conv .u8 (.t 24)⟩,
      ⟨(some 26), none, .build [(.int .u8 0), (.int .i64 0), (.int .i64 0), (.int .i64 0), (.bool false), (.int .i64 0), .nils, .nils, .nils] [(0, 1, (.t 25))]⟩,
      ⟨(some 6), none, .alloc [(.int .u8 0), (.int .i64 0), (.int .i64 0), (.int .i64 0), (.bool false), (.int .i64 0), .nils, .nils, .nils]⟩,
      ⟨none, none, .store 9 (.t 6) (.t 26)⟩])
    (.seq
     (.reg [⟨(some 7), none, .mv (.c (.int .i64 0))⟩,
       ⟨(some 8), none, .mv (.c (.int .i64 0))⟩,
       ⟨(some 9), none, .mv (.c (.str (ByteArray.mk #[])))⟩,
       ⟨(some 10), none, .mv (.c (.int .u64 0))⟩])
     (.seq
      (.reg [⟨(some 28), none, .load (some 2) (.t 4)⟩,
        ⟨(some 29), none, .call 17 [(.t 28)]⟩,
        ⟨(some 27), none, .take 29⟩,
        ⟨(some 30), none, .extS 27 0⟩,
        ⟨(some 31), none, .ext 27 1⟩,
        ⟨none, none, .store 2 (.t 4) (.t 30)⟩,
        ⟨(some 7), none, .take 31⟩])
      (.seq
       (.reg [⟨(some 32), none, .mv (.t 7)⟩,
         ⟨(some 33), none, .faddr (.t 6) 1⟩,
         ⟨none, none, .store 1 (.t 33) (.t 32)⟩])
       (.seq
        (.reg [⟨(some 35), none, .load (some 2) (.t 4)⟩,
          ⟨(some 36), none, .call 17 [(.t 35)]⟩,
          ⟨(some 34), none, .take 36⟩,
          ⟨(some 37), none, .extS 34 0⟩,
          ⟨(some 38), none, .extS 34 1⟩,
          ⟨none, none, .store 2 (.t 4) (.t 37)⟩,
          ⟨(some 39), none, .faddr (.t 6) 2⟩,
          ⟨none, none, .store 1 (.t 39) (.t 38)⟩])
        (.seq
         (.reg [⟨(some 41), none, .load (some 2) (.t 4)⟩,
           ⟨(some 42), none, .call 17 [(.t 41)]⟩,
           ⟨(some 40), none, .take 42⟩,
           ⟨(some 43), none, .extS 40 0⟩,
           ⟨(some 44), none, .extS 40 1⟩,
           ⟨none, none, .store 2 (.t 4) (.t 43)⟩,
           ⟨(some 45), none, .faddr (.t 6) 3⟩,
           ⟨none, none, .store 1 (.t 45) (.t 44)⟩])
         (.seq
          (.reg [⟨(some 47), none, .load (some 2) (.t 4)⟩,
            ⟨(some 48), none, .call 17 [(.t 47)]⟩,
            ⟨(some 46), none, .take 48⟩,
            ⟨(some 49), none, .extS 46 0⟩,
            ⟨(some 50), none, .extS 46 1⟩,
            ⟨none, none, .store 2 (.t 4) (.t 49)⟩,
            ⟨(some 51), none, .faddr (.t 6) 5⟩,
            ⟨none, none, .store 1 (.t 51) (.t 50)⟩])
          (.seq
           (.reg [⟨(some 53), none, .load (some 2) (.t 4)⟩,
             ⟨(some 54), none, .call 19 [(.t 53), (.c (.int .i64 1))]⟩,
             ⟨(some 52), none, .take 54⟩,
             ⟨(some 55), none, .extS 52 0⟩,
             ⟨(some 56), none, .ext 52 1⟩,
             ⟨none, none, .store 2 (.t 4) (.t 55)⟩,
             ⟨(some 10), none, .take 56⟩])
           (.seq
            (.reg [⟨(some 57), none, .mv (.t 10)⟩,
              ⟨(some 58), none, .bin .eql (.t 57) (.c (.int .u64 1))⟩,
              ⟨(some 59), none, .faddr (.t 6) 4⟩,
              ⟨none, none, .store 1 (.t 59) (.t 58)⟩])
            (.seq
             (.reg [⟨(some 61), none, .load (some 2) (.t 4)⟩,
               ⟨(some 62), none, .call 17 [(.t 61)]⟩,
               ⟨(some 60), none, .take 62⟩,
               ⟨(some 63), none, .extS 60 0⟩,
               ⟨(some 64), none, .ext 60 1⟩,
               ⟨none, none, .store 2 (.t 4) (.t 63)⟩,
               ⟨(some 8), none, .take 64⟩])
             (.seq
              (.seq
               (.reg [⟨(some 11), none, .mv (.c (.int .i64 0))⟩])
               (.block 0
                (.loop
                 (.seq
                  (.seq
                   (.reg [⟨(some 65), none, .mv (.t 11)⟩,
                     ⟨(some 66), none, .mv (.t 8)⟩,
                     ⟨(some 67), none, .bin .lss (.t 65) (.t 66)⟩,
                     ⟨(some 68), none, .take 67⟩,
                     ⟨(some 69), (some (68, true)), .mv (.t 11)⟩,
                     ⟨(some 70), (some (68, true)), .bin .leq (.t 69) (.c (.int .i64 64))⟩,
                     ⟨(some 71), none, .pick (.t 68) (.t 70) (.c (.bool false))⟩,
                     ⟨(some 72), none, .take 71⟩,
                     ⟨(some 73), (some (72, true)), .faddr (.t 4) 1⟩,
                     ⟨(some 74), (some (72, true)), .load none (.t 73)⟩,
                     ⟨(some 75), (some (72, true)), .bin .eql (.t 74) (.c (.int .i64 0))⟩,
                     ⟨(some 76), none, .pick (.t 72) (.t 75) (.c (.bool false))⟩])
                   (.cond (.t 76)
                    .skip
                    (.exit 0)))
                  (.seq
                   (.block 1
                    (.seq
                     (.reg [⟨(some 80), none, .load (some 2) (.t 4)⟩,
                       ⟨(some 81), none, .call 21 [(.t 80), (.c (.int .i64 1073741824))]⟩,
                       ⟨(some 79), none, .take 81⟩,
                       ⟨(some 82), none, .extS 79 0⟩,
                       ⟨(some 83), none, .ext 79 1⟩,
                       ⟨none, none, .store 2 (.t 4) (.t 82)⟩,
                       ⟨(some 9), none, .take 83⟩])
                     (.seq
                      (.reg [⟨(some 85), none, .mv (.t 9)⟩,
                        ⟨(some 86), none, .s2b (.t 85)⟩,
                        ⟨(some 87), none, .call 106 [(.t 86)]⟩,
                        ⟨(some 84), none, .take 87⟩,
                        ⟨(some 88), none, .extS 84 0⟩,
                        ⟨(some 89), none, .ext 84 1⟩,
                        ⟨(some 12), none, .alloc [(.int .i64 0), (.int .i64 0), (.int .i64 0), (.int .i64 0), (.int .i64 0), .nils]⟩,
                        ⟨none, none, .store 6 (.t 12) (.t 88)⟩,
                        ⟨(some 13), none, .take 89⟩])
                      (.reg [⟨(some 90), none, .faddr (.t 6) 6⟩,
                        ⟨(some 91), none, .takeLoad (.t 90)⟩,
                        ⟨(some 92), none, .load (some 6) (.t 12)⟩,
                        ⟨(some 93), none, .bsl 6 1 [(.int .i64 0), (.int .i64 0), (.int .i64 0), (.int .i64 0), (.int .i64 0), .nils] [(0, (.t 92))]⟩,
                        ⟨(some 94), none, .app 6 64 91 (.t 93)⟩,
                        ⟨(some 95), none, .faddr (.t 6) 6⟩,
                        ⟨none, none, .storeO (.t 95) 94⟩]))))
                   (.reg [⟨(some 77), none, .take 11⟩,
                     ⟨(some 78), none, .bin .add (.t 77) (.c (.int .i64 1))⟩,
                     ⟨(some 11), none, .take 78⟩]))))))
              (.seq
               (.reg [⟨(some 97), none, .load (some 2) (.t 4)⟩,
                 ⟨(some 98), none, .call 17 [(.t 97)]⟩,
                 ⟨(some 96), none, .take 98⟩,
                 ⟨(some 99), none, .extS 96 0⟩,
                 ⟨(some 100), none, .ext 96 1⟩,
                 ⟨none, none, .store 2 (.t 4) (.t 99)⟩,
                 ⟨(some 8), none, .take 100⟩])
               (.seq
                (.seq
                 (.reg [⟨(some 14), none, .mv (.c (.int .i64 0))⟩])
                 (.block 2
                  (.loop
                   (.seq
                    (.seq
                     (.reg [⟨(some 101), none, .mv (.t 14)⟩,
                       ⟨(some 102), none, .mv (.t 8)⟩,
                       ⟨(some 103), none, .bin .lss (.t 101) (.t 102)⟩,
                       ⟨(some 104), none, .take 103⟩,
                       ⟨(some 105), (some (104, true)), .mv (.t 14)⟩,
                       ⟨(some 106), (some (104, true)), .bin .leq (.t 105) (.c (.int .i64 64))⟩,
                       ⟨(some 107), none, .pick (.t 104) (.t 106) (.c (.bool false))⟩,
                       ⟨(some 108), none, .take 107⟩,
                       ⟨(some 109), (some (108, true)), .faddr (.t 4) 1⟩,
                       ⟨(some 110), (some (108, true)), .load none (.t 109)⟩,
                       ⟨(some 111), (some (108, true)), .bin .eql (.t 110) (.c (.int .i64 0))⟩,
                       ⟨(some 112), none, .pick (.t 108) (.t 111) (.c (.bool false))⟩])
                     (.cond (.t 112)
                      .skip
                      (.exit 2)))
                    (.seq
                     (.block 3
                      (.seq
                       (.reg [⟨(some 116), none, .load (some 2) (.t 4)⟩,
                         ⟨(some 117), none, .call 17 [(.t 116)]⟩,
                         ⟨(some 115), none, .take 117⟩,
                         ⟨(some 118), none, .extS 115 0⟩,
                         ⟨(some 119), none, .ext 115 1⟩,
                         ⟨none, none, .store 2 (.t 4) (.t 118)⟩,
                         ⟨(some 7), none, .take 119⟩])
                       (.reg [⟨(some 120), none, .faddr (.t 6) 7⟩,
                         ⟨(some 121), none, .takeLoad (.t 120)⟩,
                         ⟨(some 122), none, .mv (.t 7)⟩,
                         ⟨(some 123), none, .bsl 1 1 [(.int .i64 0)] [(0, (.t 122))]⟩,
                         ⟨(some 124), none, .app 1 8 121 (.t 123)⟩,
                         ⟨(some 125), none, .faddr (.t 6) 7⟩,
                         ⟨none, none, .storeO (.t 125) 124⟩])))
                     (.reg [⟨(some 113), none, .take 14⟩,
                       ⟨(some 114), none, .bin .add (.t 113) (.c (.int .i64 1))⟩,
                       ⟨(some 14), none, .take 114⟩]))))))
                (.seq
                 (.reg [⟨(some 127), none, .load (some 2) (.t 4)⟩,
                   ⟨(some 128), none, .call 17 [(.t 127)]⟩,
                   ⟨(some 126), none, .take 128⟩,
                   ⟨(some 129), none, .extS 126 0⟩,
                   ⟨(some 130), none, .ext 126 1⟩,
                   ⟨none, none, .store 2 (.t 4) (.t 129)⟩,
                   ⟨(some 8), none, .take 130⟩])
                 (.seq
                  (.seq
                   (.reg [⟨(some 15), none, .mv (.c (.int .i64 0))⟩])
                   (.block 4
                    (.loop
                     (.seq
                      (.seq
                       (.reg [⟨(some 131), none, .mv (.t 15)⟩,
                         ⟨(some 132), none, .mv (.t 8)⟩,
                         ⟨(some 133), none, .bin .lss (.t 131) (.t 132)⟩,
                         ⟨(some 134), none, .take 133⟩,
                         ⟨(some 135), (some (134, true)), .mv (.t 15)⟩,
                         ⟨(some 136), (some (134, true)), .bin .leq (.t 135) (.c (.int .i64 64))⟩,
                         ⟨(some 137), none, .pick (.t 134) (.t 136) (.c (.bool false))⟩,
                         ⟨(some 138), none, .take 137⟩,
                         ⟨(some 139), (some (138, true)), .faddr (.t 4) 1⟩,
                         ⟨(some 140), (some (138, true)), .load none (.t 139)⟩,
                         ⟨(some 141), (some (138, true)), .bin .eql (.t 140) (.c (.int .i64 0))⟩,
                         ⟨(some 142), none, .pick (.t 138) (.t 141) (.c (.bool false))⟩])
                       (.cond (.t 142)
                        .skip
                        (.exit 4)))
                      (.seq
                       (.block 5
                        (.seq
                         (.reg [⟨(some 146), none, .load (some 2) (.t 4)⟩,
                           ⟨(some 147), none, .call 21 [(.t 146), (.c (.int .i64 255))]⟩,
                           ⟨(some 145), none, .take 147⟩,
                           ⟨(some 148), none, .extS 145 0⟩,
                           ⟨(some 149), none, .ext 145 1⟩,
                           ⟨none, none, .store 2 (.t 4) (.t 148)⟩,
                           ⟨(some 9), none, .take 149⟩])
                         (.reg [⟨(some 150), none, .faddr (.t 6) 8⟩,
                           ⟨(some 151), none, .takeLoad (.t 150)⟩,
                           ⟨(some 152), none, .mv (.t 9)⟩,
                           ⟨(some 153), none, .bsl 1 1 [(.str (ByteArray.mk #[]))] [(0, (.t 152))]⟩,
                           ⟨(some 154), none, .app 1 16 151 (.t 153)⟩,
                           ⟨(some 155), none, .faddr (.t 6) 8⟩,
                           ⟨none, none, .storeO (.t 155) 154⟩])))
                       (.reg [⟨(some 143), none, .take 15⟩,
                         ⟨(some 144), none, .bin .add (.t 143) (.c (.int .i64 1))⟩,
                         ⟨(some 15), none, .take 144⟩]))))))
                  (.seq
                   (.reg [⟨(some 157), none, .load (some 9) (.t 6)⟩,
                     ⟨(some 158), none, .call 39 [(.t 157)]⟩,
                     ⟨(some 156), none, .take 158⟩,
                     ⟨(some 159), none, .ext 156 0⟩,
                     ⟨(some 160), none, .ext 156 1⟩,
                     ⟨(some 16), none, .take 159⟩,
                     ⟨(some 17), none, .take 160⟩])
                   (.seq
                    (.seq
                     (.reg [⟨(some 161), none, .mv (.t 17)⟩,
                       ⟨(some 162), none, .bin .neq (.t 161) (.c (.int .i64 0))⟩,
                       ⟨(some 163), none, .take 162⟩,
                       ⟨(some 164), (some (163, false)), .mv (.t 16)⟩,
                       ⟨(some 165), (some (163, false)), .b2s (.t 164)⟩,
                       ⟨(some 166), (some (163, false)), .mv (.t 0)⟩,
                       ⟨(some 167), (some (163, false)), .b2s (.t 166)⟩,
                       ⟨(some 168), (some (163, false)), .bin .neq (.t 165) (.t 167)⟩,
                       ⟨(some 169), none, .pick (.t 163) (.c (.bool true)) (.t 168)⟩])
                     (.cond (.t 169)
                      (.seq
                       (.reg [⟨(some 170), none, .build [(.int .u8 0), (.int .i64 0), (.int .i64 0), (.int .i64 0), (.bool false), (.int .i64 0), .nils, .nils, .nils] []⟩,
                         ⟨none, none, .store 9 (.t 2) (.t 170)⟩,
                         ⟨(some 3), none, .mv (.c (.int .i64 4))⟩])
                       .ret)
                      .skip))
                    (.seq
                     (.reg [⟨(some 171), none, .load (some 9) (.t 6)⟩,
                       ⟨none, none, .store 9 (.t 2) (.t 171)⟩,
                       ⟨(some 3), none, .mv (.c (.int .i64 0))⟩])
                     .ret))))))))))))))))))))
def ar45 : List AR := [.c 2 (some 9), .t 3]
theorem comp45 : Try.f45.body.bind (comp Try.prog 172) = some ac45 := by kernel_rfl
theorem cres45 : compRes Try.prog Try.f45.results.toList = some ar45 := by kernel_rfl
/-- bilander/bilanderref04.SameAll -/
def ac49 : AC :=
 (.seq
  (.reg [⟨(some 4), none, .mv (.c (.bool false))⟩])
  (.seq
   (.seq
    (.reg [⟨(some 6), none, .mv (.t 0)⟩,
      ⟨(some 7), none, .len false (.t 6)⟩,
      ⟨(some 8), none, .mv (.t 1)⟩,
      ⟨(some 9), none, .len false (.t 8)⟩,
      ⟨(some 10), none, .bin .neq (.t 7) (.t 9)⟩])
    (.cond (.t 10)
     (.seq
      (.reg [⟨(some 4), none, .mv (.c (.bool false))⟩])
      .ret)
     .skip))
   (.seq
    (.seq
     (.reg [⟨(some 5), none, .mv (.c (.int .i64 0))⟩])
     (.block 0
      (.loop
       (.seq
        (.seq
         (.reg [⟨(some 11), none, .mv (.t 5)⟩,
           ⟨(some 12), none, .mv (.t 0)⟩,
           ⟨(some 13), none, .len false (.t 12)⟩,
           ⟨(some 14), none, .bin .lss (.t 11) (.t 13)⟩])
         (.cond (.t 14)
          .skip
          (.exit 0)))
        (.seq
         (.block 1
          (.seq
           (.dreg [] [⟨(some 17), none, .mv (.t 0)⟩,
             ⟨(some 18), none, .mv (.t 5)⟩,
             ⟨(some 19), none, .iaddr 6 (.t 17) (.t 18)⟩,
             ⟨(some 20), none, .load (some 6) (.t 19)⟩,
             ⟨(some 21), none, .mv (.t 1)⟩,
             ⟨(some 22), none, .mv (.t 5)⟩,
             ⟨(some 23), none, .iaddr 6 (.t 21) (.t 22)⟩,
             ⟨(some 24), none, .load (some 6) (.t 23)⟩,
             ⟨(some 25), none, .call 89 [(.t 20), (.t 24)]⟩,
             ⟨(some 26), none, .una .not (.t 25)⟩])
           (.cond (.t 26)
            (.seq
             (.reg [⟨(some 4), none, .mv (.c (.bool false))⟩])
             .ret)
            .skip)))
         (.reg [⟨(some 15), none, .take 5⟩,
           ⟨(some 16), none, .bin .add (.t 15) (.c (.int .i64 1))⟩,
           ⟨(some 5), none, .take 16⟩]))))))
    (.seq
     (.reg [⟨(some 4), none, .mv (.c (.bool true))⟩])
     .ret))))
def ar49 : List AR := [.t 4]
theorem comp49 : Try.f49.body.bind (comp Try.prog 27) = some ac49 := by kernel_rfl
theorem cres49 : compRes Try.prog Try.f49.results.toList = some ar49 := by kernel_rfl
/-- bilander/wire.alien -/
def ac83 : AC :=
 (.seq
  (.reg [⟨(some 1), none, .box 18 (.t 0)⟩,
    ⟨(some 2), none, .mv (.c (.bool false))⟩])
  (.seq
   (.seq
    (.reg [⟨(some 5), none, .faddr (.t 1) 0⟩,
      ⟨(some 6), none, .load none (.t 5)⟩,
      ⟨(some 7), none, .call 35 [(.t 6)]⟩,
      ⟨(some 8), none, .rng (.t 7)⟩])
    (.block 0
     (.loop
      (.seq
       (.reg [⟨(some 9), none, .nxt 8⟩,
         ⟨(some 10), none, .extS 9 0⟩])
       (.seq
        (.cond (.t 10)
         .skip
         (.exit 0))
        (.block 1
         (.seq
          (.reg [⟨(some 11), none, .ext 9 2⟩,
            ⟨(some 4), none, .take 11⟩])
          (.reg [⟨(some 12), none, .mv (.t 4)⟩,
            ⟨(some 13), none, .callE 132 (.t 1) [(.t 12)]⟩]))))))))
   (.seq
    (.reg [⟨(some 14), none, .load (some 18) (.t 1)⟩,
      ⟨(some 15), none, .faddr (.t 1) 0⟩,
      ⟨(some 16), none, .load none (.t 15)⟩,
      ⟨(some 17), none, .build [(.int .u8 0), (.str (ByteArray.mk #[])), (.int .i64 0), (.int .i64 0), (.bool false), (.bool false), (.int .i64 0), (.int .i64 0), (.int .i64 0), (.str (ByteArray.mk #[])), (.str (ByteArray.mk #[])), (.int .i64 0), (.int .i64 0), (.int .i64 0), (.int .i64 0), (.int .i64 0), (.int .i64 0), .nils] [(0, 1, (.t 16))]⟩,
      ⟨(some 18), none, .call 33 [(.t 14), (.t 17)]⟩,
      ⟨(some 19), none, .una .not (.t 18)⟩,
      ⟨(some 2), none, .take 19⟩])
    .ret)))
def ar83 : List AR := [.t 2]
theorem comp83 : Try.f83.body.bind (comp Try.prog 20) = some ac83 := by kernel_rfl
theorem cres83 : compRes Try.prog Try.f83.results.toList = some ar83 := by kernel_rfl
/-- bilander/wire.field -/
def ac85 : AC :=
 (.seq
  (.reg [⟨(some 3), none, .box 18 (.t 0)⟩,
    ⟨(some 6), none, .mv (.c .nils)⟩])
  (.seq
   (.seq
    (.reg [⟨(some 7), none, .mv (.t 1)⟩])
    (.block 0
     (.seq
      (.reg [⟨(some 9), none, .bin .eql (.t 7) (.c (.int .i32 116))⟩,
        ⟨(some 8), none, .take 9⟩])
      (.cond (.t 8)
       (.seq
        (.reg [⟨(some 10), none, .faddr (.t 3) 1⟩,
          ⟨(some 11), none, .load none (.t 10)⟩,
          ⟨(some 12), none, .call 27 [(.t 11)]⟩,
          ⟨(some 6), none, .take 12⟩])
        .ret)
       (.seq
        (.reg [⟨(some 14), none, .bin .eql (.t 7) (.c (.int .i32 105))⟩,
          ⟨(some 13), none, .take 14⟩])
        (.cond (.t 13)
         (.seq
          (.reg [⟨(some 15), none, .faddr (.t 3) 2⟩,
            ⟨(some 16), none, .load none (.t 15)⟩,
            ⟨(some 17), none, .call 71 [(.t 16)]⟩,
            ⟨(some 6), none, .take 17⟩])
          .ret)
         (.seq
          (.reg [⟨(some 19), none, .bin .eql (.t 7) (.c (.int .i32 112))⟩,
            ⟨(some 18), none, .take 19⟩])
          (.cond (.t 18)
           (.seq
            (.reg [⟨(some 20), none, .faddr (.t 3) 3⟩,
              ⟨(some 21), none, .load none (.t 20)⟩,
              ⟨(some 22), none, .call 71 [(.t 21)]⟩,
              ⟨(some 6), none, .take 22⟩])
            .ret)
           (.seq
            (.reg [⟨(some 24), none, .bin .eql (.t 7) (.c (.int .i32 99))⟩,
              ⟨(some 23), none, .take 24⟩])
            (.cond (.t 23)
             (.seq
              (.reg [⟨(some 25), none, .faddr (.t 3) 4⟩,
                ⟨(some 26), none, .load none (.t 25)⟩,
                ⟨(some 27), none, .call 93 [(.t 26)]⟩,
                ⟨(some 6), none, .take 27⟩])
              .ret)
             (.seq
              (.reg [⟨(some 29), none, .bin .eql (.t 7) (.c (.int .i32 102))⟩,
                ⟨(some 28), none, .take 29⟩])
              (.cond (.t 28)
               (.seq
                (.reg [⟨(some 30), none, .faddr (.t 3) 5⟩,
                  ⟨(some 31), none, .load none (.t 30)⟩,
                  ⟨(some 32), none, .call 93 [(.t 31)]⟩,
                  ⟨(some 6), none, .take 32⟩])
                .ret)
               (.seq
                (.reg [⟨(some 34), none, .bin .eql (.t 7) (.c (.int .i32 111))⟩,
                  ⟨(some 33), none, .take 34⟩])
                (.cond (.t 33)
                 (.seq
                  (.reg [⟨(some 35), none, .faddr (.t 3) 6⟩,
                    ⟨(some 36), none, .load none (.t 35)⟩,
                    ⟨(some 37), none, .call 71 [(.t 36)]⟩,
                    ⟨(some 6), none, .take 37⟩])
                  .ret)
                 (.seq
                  (.reg [⟨(some 39), none, .bin .eql (.t 7) (.c (.int .i32 109))⟩,
                    ⟨(some 38), none, .take 39⟩])
                  (.cond (.t 38)
                   (.seq
                    (.reg [⟨(some 40), none, .faddr (.t 3) 7⟩,
                      ⟨(some 41), none, .load none (.t 40)⟩,
                      ⟨(some 42), none, .call 71 [(.t 41)]⟩,
                      ⟨(some 6), none, .take 42⟩])
                    .ret)
                   (.seq
                    (.reg [⟨(some 44), none, .bin .eql (.t 7) (.c (.int .i32 119))⟩,
                      ⟨(some 43), none, .take 44⟩])
                    (.cond (.t 43)
                     (.seq
                      (.reg [⟨(some 45), none, .faddr (.t 3) 8⟩,
                        ⟨(some 46), none, .load none (.t 45)⟩,
                        ⟨(some 47), none, .call 71 [(.t 46)]⟩,
                        ⟨(some 6), none, .take 47⟩])
                      .ret)
                     (.seq
                      (.reg [⟨(some 49), none, .bin .eql (.t 7) (.c (.int .i32 103))⟩,
                        ⟨(some 48), none, .take 49⟩])
                      (.cond (.t 48)
                       (.seq
                        (.reg [⟨(some 50), none, .faddr (.t 3) 9⟩,
                          ⟨(some 51), none, .load none (.t 50)⟩,
                          ⟨(some 52), none, .call 27 [(.t 51)]⟩,
                          ⟨(some 6), none, .take 52⟩])
                        .ret)
                       (.seq
                        (.reg [⟨(some 54), none, .bin .eql (.t 7) (.c (.int .i32 107))⟩,
                          ⟨(some 53), none, .take 54⟩])
                        (.cond (.t 53)
                         (.seq
                          (.reg [⟨(some 55), none, .faddr (.t 3) 10⟩,
                            ⟨(some 56), none, .load none (.t 55)⟩,
                            ⟨(some 57), none, .call 27 [(.t 56)]⟩,
                            ⟨(some 6), none, .take 57⟩])
                          .ret)
                         (.seq
                          (.reg [⟨(some 59), none, .bin .eql (.t 7) (.c (.int .i32 110))⟩,
                            ⟨(some 58), none, .take 59⟩])
                          (.cond (.t 58)
                           (.seq
                            (.reg [⟨(some 60), none, .faddr (.t 3) 11⟩,
                              ⟨(some 61), none, .load none (.t 60)⟩,
                              ⟨(some 62), none, .call 71 [(.t 61)]⟩,
                              ⟨(some 6), none, .take 62⟩])
                            .ret)
                           .skip))))))))))))))))))))))))
   (.seq
    (.reg [⟨(some 63), none, .mv (.t 2)⟩,
      ⟨(some 64), none, .b2s (.t 63)⟩,
      ⟨(some 65), none, .call 27 [(.t 64)]⟩,
      ⟨(some 6), none, .take 65⟩])
    .ret)))
def ar85 : List AR := [.t 6]
theorem comp85 : Try.f85.body.bind (comp Try.prog 66) = some ac85 := by kernel_rfl
theorem cres85 : compRes Try.prog Try.f85.results.toList = some ar85 := by kernel_rfl
/-- bilander/bilanderref22.only -/
def ac86 : AC :=
 (.seq
  (.reg [⟨(some 1), none, .box 18 (.t 0)⟩,
    ⟨(some 2), none, .alloc [(.int .u8 0), (.str (ByteArray.mk #[])), (.int .i64 0), (.int .i64 0), (.bool false), (.bool false), (.int .i64 0), (.int .i64 0), (.int .i64 0), (.str (ByteArray.mk #[])), (.str (ByteArray.mk #[])), (.int .i64 0), (.int .i64 0), (.int .i64 0), (.int .i64 0), (.int .i64 0), (.int .i64 0), .nils]⟩])
  (.seq
   (.reg [⟨(some 5), none, .faddr (.t 1) 0⟩,
     ⟨(some 6), none, .load none (.t 5)⟩,
     ⟨(some 7), none, .call 36 [(.t 6)]⟩,
     ⟨(some 3), none, .take 7⟩])
   (.seq
    (.reg [⟨(some 8), none, .faddr (.t 1) 0⟩,
      ⟨(some 9), none, .load none (.t 8)⟩,
      ⟨(some 10), none, .build [(.int .u8 0), (.str (ByteArray.mk #[])), (.int .i64 0), (.int .i64 0), (.bool false), (.bool false), (.int .i64 0), (.int .i64 0), (.int .i64 0), (.str (ByteArray.mk #[])), (.str (ByteArray.mk #[])), (.int .i64 0), (.int .i64 0), (.int .i64 0), (.int .i64 0), (.int .i64 0), (.int .i64 0), .nils] [(0, 1, (.t 9))]⟩,
      ⟨(some 4), none, .alloc [(.int .u8 0), (.str (ByteArray.mk #[])), (.int .i64 0), (.int .i64 0), (.bool false), (.bool false), (.int .i64 0), (.int .i64 0), (.int .i64 0), (.str (ByteArray.mk #[])), (.str (ByteArray.mk #[])), (.int .i64 0), (.int .i64 0), (.int .i64 0), (.int .i64 0), (.int .i64 0), (.int .i64 0), .nils]⟩,
      ⟨none, none, .store 18 (.t 4) (.t 10)⟩])
    (.seq
     (.seq
      (.reg [⟨(some 11), none, .mv (.t 3)⟩,
        ⟨(some 12), none, .call 133 [(.t 11), (.c (.int .u8 116))]⟩])
      (.cond (.t 12)
       (.reg [⟨(some 13), none, .faddr (.t 1) 1⟩,
         ⟨(some 14), none, .load none (.t 13)⟩,
         ⟨(some 15), none, .faddr (.t 4) 1⟩,
         ⟨none, none, .store 1 (.t 15) (.t 14)⟩])
       .skip))
     (.seq
      (.seq
       (.reg [⟨(some 16), none, .mv (.t 3)⟩,
         ⟨(some 17), none, .call 133 [(.t 16), (.c (.int .u8 105))]⟩])
       (.cond (.t 17)
        (.reg [⟨(some 18), none, .faddr (.t 1) 2⟩,
          ⟨(some 19), none, .load none (.t 18)⟩,
          ⟨(some 20), none, .faddr (.t 4) 2⟩,
          ⟨none, none, .store 1 (.t 20) (.t 19)⟩])
        .skip))
      (.seq
       (.seq
        (.reg [⟨(some 21), none, .mv (.t 3)⟩,
          ⟨(some 22), none, .call 133 [(.t 21), (.c (.int .u8 112))]⟩])
        (.cond (.t 22)
         (.dreg [(23, 1), (1, 1), (25, 1), (27, 4), (4, 4), (28, 4)] [⟨(some 23), none, .faddr (.t 1) 3⟩,
           ⟨(some 24), none, .load none (.t 23)⟩,
           ⟨(some 25), none, .faddr (.t 1) 4⟩,
           ⟨(some 26), none, .load none (.t 25)⟩,
           ⟨(some 27), none, .faddr (.t 4) 3⟩,
           ⟨none, none, .store 1 (.t 27) (.t 24)⟩,
           ⟨(some 28), none, .faddr (.t 4) 4⟩,
           ⟨none, none, .store 1 (.t 28) (.t 26)⟩])
         .skip))
       (.seq
        (.seq
         (.reg [⟨(some 29), none, .mv (.t 3)⟩,
           ⟨(some 30), none, .call 133 [(.t 29), (.c (.int .u8 102))]⟩])
         (.cond (.t 30)
          (.dreg [(31, 1), (1, 1), (33, 1), (35, 4), (4, 4), (36, 4)] [⟨(some 31), none, .faddr (.t 1) 5⟩,
            ⟨(some 32), none, .load none (.t 31)⟩,
            ⟨(some 33), none, .faddr (.t 1) 12⟩,
            ⟨(some 34), none, .load (some 6) (.t 33)⟩,
            ⟨(some 35), none, .faddr (.t 4) 5⟩,
            ⟨none, none, .store 1 (.t 35) (.t 32)⟩,
            ⟨(some 36), none, .faddr (.t 4) 12⟩,
            ⟨none, none, .store 6 (.t 36) (.t 34)⟩])
          .skip))
        (.seq
         (.seq
          (.reg [⟨(some 37), none, .mv (.t 3)⟩,
            ⟨(some 38), none, .call 133 [(.t 37), (.c (.int .u8 111))]⟩])
          (.cond (.t 38)
           (.reg [⟨(some 39), none, .faddr (.t 1) 6⟩,
             ⟨(some 40), none, .load none (.t 39)⟩,
             ⟨(some 41), none, .faddr (.t 4) 6⟩,
             ⟨none, none, .store 1 (.t 41) (.t 40)⟩])
           .skip))
         (.seq
          (.seq
           (.reg [⟨(some 42), none, .mv (.t 3)⟩,
             ⟨(some 43), none, .call 133 [(.t 42), (.c (.int .u8 109))]⟩])
           (.cond (.t 43)
            (.reg [⟨(some 44), none, .faddr (.t 1) 7⟩,
              ⟨(some 45), none, .load none (.t 44)⟩,
              ⟨(some 46), none, .faddr (.t 4) 7⟩,
              ⟨none, none, .store 1 (.t 46) (.t 45)⟩])
            .skip))
          (.seq
           (.seq
            (.reg [⟨(some 47), none, .mv (.t 3)⟩,
              ⟨(some 48), none, .call 133 [(.t 47), (.c (.int .u8 119))]⟩])
            (.cond (.t 48)
             (.reg [⟨(some 49), none, .faddr (.t 1) 8⟩,
               ⟨(some 50), none, .load none (.t 49)⟩,
               ⟨(some 51), none, .faddr (.t 4) 8⟩,
               ⟨none, none, .store 1 (.t 51) (.t 50)⟩])
             .skip))
           (.seq
            (.seq
             (.reg [⟨(some 52), none, .mv (.t 3)⟩,
               ⟨(some 53), none, .call 133 [(.t 52), (.c (.int .u8 103))]⟩])
             (.cond (.t 53)
              (.reg [⟨(some 54), none, .faddr (.t 1) 9⟩,
                ⟨(some 55), none, .load none (.t 54)⟩,
                ⟨(some 56), none, .faddr (.t 4) 9⟩,
                ⟨none, none, .store 1 (.t 56) (.t 55)⟩])
              .skip))
            (.seq
             (.seq
              (.reg [⟨(some 57), none, .mv (.t 3)⟩,
                ⟨(some 58), none, .call 133 [(.t 57), (.c (.int .u8 107))]⟩])
              (.cond (.t 58)
               (.reg [⟨(some 59), none, .faddr (.t 1) 10⟩,
                 ⟨(some 60), none, .load none (.t 59)⟩,
                 ⟨(some 61), none, .faddr (.t 4) 10⟩,
                 ⟨none, none, .store 1 (.t 61) (.t 60)⟩])
               .skip))
             (.seq
              (.seq
               (.reg [⟨(some 62), none, .mv (.t 3)⟩,
                 ⟨(some 63), none, .call 133 [(.t 62), (.c (.int .u8 110))]⟩])
               (.cond (.t 63)
                (.reg [⟨(some 64), none, .faddr (.t 1) 11⟩,
                  ⟨(some 65), none, .load none (.t 64)⟩,
                  ⟨(some 66), none, .faddr (.t 4) 11⟩,
                  ⟨none, none, .store 1 (.t 66) (.t 65)⟩])
                .skip))
              (.seq
               (.reg [⟨(some 67), none, .load (some 18) (.t 4)⟩,
                 ⟨none, none, .store 18 (.t 2) (.t 67)⟩])
               .ret))))))))))))))
def ar86 : List AR := [.c 2 (some 18)]
theorem comp86 : Try.f86.body.bind (comp Try.prog 68) = some ac86 := by kernel_rfl
theorem cres86 : compRes Try.prog Try.f86.results.toList = some ar86 := by kernel_rfl
/-- bilander/bilanderref22.flag -/
def ac88 : AC :=
 (.seq
  (.reg [⟨(some 2), none, .mv (.c .nils)⟩])
  (.seq
   (.seq
    (.reg [⟨(some 3), none, .mv (.t 0)⟩])
    (.cond (.t 3)
     (.seq
      (.reg [⟨(some 4), none, .bsl 1 1 [(.int .u8 0)] [(0, (.c (.int .u8 1)))]⟩,
        ⟨(some 2), none, .take 4⟩])
      .ret)
     .skip))
   (.seq
    (.reg [⟨(some 5), none, .bsl 1 1 [(.int .u8 0)] [(0, (.c (.int .u8 0)))]⟩,
      ⟨(some 2), none, .take 5⟩])
    .ret)))
def ar88 : List AR := [.t 2]
theorem comp88 : Try.f88.body.bind (comp Try.prog 6) = some ac88 := by kernel_rfl
theorem cres88 : compRes Try.prog Try.f88.results.toList = some ar88 := by kernel_rfl
/-- bilander/bilanderref04.LightAll -/
def ac90 : AC :=
 (.seq
  (.reg [⟨(some 4), none, .mv (.c (.bool false))⟩])
  (.seq
   (.seq
    (.reg [⟨(some 6), none, .mv (.t 0)⟩,
      ⟨(some 7), none, .len false (.t 6)⟩,
      ⟨(some 8), none, .mv (.t 1)⟩,
      ⟨(some 9), none, .bin .gtr (.t 7) (.t 8)⟩])
    (.cond (.t 9)
     (.seq
      (.reg [⟨(some 4), none, .mv (.c (.bool false))⟩])
      .ret)
     .skip))
   (.seq
    (.seq
     (.reg [⟨(some 5), none, .mv (.c (.int .i64 0))⟩])
     (.block 0
      (.loop
       (.seq
        (.seq
         (.reg [⟨(some 10), none, .mv (.t 5)⟩,
           ⟨(some 11), none, .mv (.t 0)⟩,
           ⟨(some 12), none, .len false (.t 11)⟩,
           ⟨(some 13), none, .bin .lss (.t 10) (.t 12)⟩])
         (.cond (.t 13)
          .skip
          (.exit 0)))
        (.seq
         (.block 1
          (.seq
           (.reg [⟨(some 16), none, .mv (.t 0)⟩,
             ⟨(some 17), none, .mv (.t 5)⟩,
             ⟨(some 18), none, .iaddr 6 (.t 16) (.t 17)⟩,
             ⟨(some 19), none, .load (some 6) (.t 18)⟩,
             ⟨(some 20), none, .call 64 [(.t 19)]⟩,
             ⟨(some 21), none, .una .not (.t 20)⟩])
           (.cond (.t 21)
            (.seq
             (.reg [⟨(some 4), none, .mv (.c (.bool false))⟩])
             .ret)
            .skip)))
         (.reg [⟨(some 14), none, .take 5⟩,
           ⟨(some 15), none, .bin .add (.t 14) (.c (.int .i64 1))⟩,
           ⟨(some 5), none, .take 15⟩]))))))
    (.seq
     (.reg [⟨(some 4), none, .mv (.c (.bool true))⟩])
     .ret))))
def ar90 : List AR := [.t 4]
theorem comp90 : Try.f90.body.bind (comp Try.prog 22) = some ac90 := by kernel_rfl
theorem cres90 : compRes Try.prog Try.f90.results.toList = some ar90 := by kernel_rfl
/-- slices.ContainsFunc[[]string,string] -/
def ac91 : AC :=
 (.seq
  (.reg [⟨(some 4), none, .mv (.c (.bool false))⟩])
  (.seq
   (.reg [⟨(some 5), none, .mv (.t 0)⟩,
     ⟨(some 6), none, .mv (.t 1)⟩,
     ⟨(some 7), none, .call 136 [(.t 5), (.t 6)]⟩,
     ⟨(some 8), none, .bin .geq (.t 7) (.c (.int .i64 0))⟩,
     ⟨(some 4), none, .take 8⟩])
   .ret))
def ar91 : List AR := [.t 4]
theorem comp91 : Try.f91.body.bind (comp Try.prog 9) = some ac91 := by kernel_rfl
theorem cres91 : compRes Try.prog Try.f91.results.toList = some ar91 := by kernel_rfl
/-- bilander/wire.PutResponse$1 -/
def ac92 : AC :=
 (.seq
  (.reg [⟨(some 2), none, .mv (.c (.bool false))⟩])
  (.seq
   (.reg [⟨(some 3), none, .mv (.t 0)⟩,
     ⟨(some 4), none, .len true (.t 3)⟩,
     ⟨(some 5), none, .bin .gtr (.t 4) (.c (.int .i64 255))⟩,
     ⟨(some 2), none, .take 5⟩])
   .ret))
def ar92 : List AR := [.t 2]
theorem comp92 : Try.f92.body.bind (comp Try.prog 6) = some ac92 := by kernel_rfl
theorem cres92 : compRes Try.prog Try.f92.results.toList = some ar92 := by kernel_rfl
/-- bilander/wire.flag -/
def ac93 : AC :=
 (.seq
  (.reg [⟨(some 2), none, .mv (.c .nils)⟩])
  (.seq
   (.seq
    (.reg [⟨(some 3), none, .mv (.t 0)⟩])
    (.cond (.t 3)
     (.seq
      (.reg [⟨(some 4), none, .bsl 1 1 [(.int .u8 0)] [(0, (.c (.int .u8 1)))]⟩,
        ⟨(some 2), none, .take 4⟩])
      .ret)
     .skip))
   (.seq
    (.reg [⟨(some 5), none, .bsl 1 1 [(.int .u8 0)] [(0, (.c (.int .u8 0)))]⟩,
      ⟨(some 2), none, .take 5⟩])
    .ret)))
def ar93 : List AR := [.t 2]
theorem comp93 : Try.f93.body.bind (comp Try.prog 6) = some ac93 := by kernel_rfl
theorem cres93 : compRes Try.prog Try.f93.results.toList = some ar93 := by kernel_rfl
/-- slices.EqualFunc[[]bilander/api.Batch,[]bilander/api.Batch,bilander/api.Batch,bilander/api.Batch] -/
def ac94 : AC :=
 (.seq
  (.reg [⟨(some 6), none, .mv (.c (.bool false))⟩])
  (.seq
   (.seq
    (.reg [⟨(some 10), none, .mv (.t 0)⟩,
      ⟨(some 11), none, .len false (.t 10)⟩,
      ⟨(some 12), none, .mv (.t 1)⟩,
      ⟨(some 13), none, .len false (.t 12)⟩,
      ⟨(some 14), none, .bin .neq (.t 11) (.t 13)⟩])
    (.cond (.t 14)
     (.seq
      (.reg [⟨(some 6), none, .mv (.c (.bool false))⟩])
      .ret)
     .skip))
   (.seq
    (.seq
     (.reg [⟨(some 15), none, .mv (.t 0)⟩,
       ⟨(some 16), none, .len false (.t 15)⟩,
       ⟨(some 17), none, .mv (.c (.int .i64 0))⟩])
     (.block 0
      (.loop
       (.seq
        (.reg [⟨(some 18), none, .bin .lss (.t 17) (.t 16)⟩])
        (.seq
         (.cond (.t 18)
          .skip
          (.exit 0))
         (.seq
          (.block 1
           (.seq
            (.reg [⟨(some 19), none, .take 17⟩,
              ⟨(some 20), none, .iaddr 6 (.t 15) (.t 17)⟩,
              ⟨(some 21), none, .load (some 6) (.t 20)⟩,
              ⟨(some 8), none, .alloc [(.int .i64 0), (.int .i64 0), (.int .i64 0), (.int .i64 0), (.int .i64 0), .nils]⟩,
              ⟨(some 7), none, .take 19⟩,
              ⟨none, none, .store 6 (.t 8) (.t 21)⟩])
            (.seq
             (.reg [⟨(some 22), none, .mv (.t 1)⟩,
               ⟨(some 23), none, .mv (.t 7)⟩,
               ⟨(some 24), none, .iaddr 6 (.t 22) (.t 23)⟩,
               ⟨(some 25), none, .load (some 6) (.t 24)⟩,
               ⟨(some 9), none, .alloc [(.int .i64 0), (.int .i64 0), (.int .i64 0), (.int .i64 0), (.int .i64 0), .nils]⟩,
               ⟨none, none, .store 6 (.t 9) (.t 25)⟩])
             (.seq
              (.reg [⟨(some 26), none, .mv (.t 2)⟩,
                ⟨(some 27), none, .load (some 6) (.t 8)⟩,
                ⟨(some 28), none, .load (some 6) (.t 9)⟩,
                ⟨(some 29), none, .callV (.t 26) [(.t 27), (.t 28)]⟩,
                ⟨(some 30), none, .una .not (.t 29)⟩])
              (.cond (.t 30)
               (.seq
                (.reg [⟨(some 6), none, .mv (.c (.bool false))⟩])
                .ret)
               .skip)))))
          (.reg [⟨(some 31), none, .bin .add (.t 17) (.c (.int .i64 1))⟩,
            ⟨(some 17), none, .take 31⟩])))))))
    (.seq
     (.reg [⟨(some 6), none, .mv (.c (.bool true))⟩])
     .ret))))
def ar94 : List AR := [.t 6]
theorem comp94 : Try.f94.body.bind (comp Try.prog 32) = some ac94 := by kernel_rfl
theorem cres94 : compRes Try.prog Try.f94.results.toList = some ar94 := by kernel_rfl
/-- slices.Equal[[]int,int] -/
def ac95 : AC :=
 (.seq
  (.reg [⟨(some 4), none, .mv (.c (.bool false))⟩])
  (.seq
   (.seq
    (.reg [⟨(some 6), none, .mv (.t 0)⟩,
      ⟨(some 7), none, .len false (.t 6)⟩,
      ⟨(some 8), none, .mv (.t 1)⟩,
      ⟨(some 9), none, .len false (.t 8)⟩,
      ⟨(some 10), none, .bin .neq (.t 7) (.t 9)⟩])
    (.cond (.t 10)
     (.seq
      (.reg [⟨(some 4), none, .mv (.c (.bool false))⟩])
      .ret)
     .skip))
   (.seq
    (.seq
     (.reg [⟨(some 11), none, .mv (.t 0)⟩,
       ⟨(some 12), none, .len false (.t 11)⟩,
       ⟨(some 13), none, .mv (.c (.int .i64 0))⟩])
     (.block 0
      (.loop
       (.seq
        (.reg [⟨(some 14), none, .bin .lss (.t 13) (.t 12)⟩])
        (.seq
         (.cond (.t 14)
          .skip
          (.exit 0))
         (.seq
          (.block 1
           (.seq
            (.reg [⟨(some 15), none, .take 13⟩,
              ⟨(some 5), none, .take 15⟩])
            (.seq
             (.dreg [] [⟨(some 16), none, .mv (.t 0)⟩,
               ⟨(some 17), none, .mv (.t 5)⟩,
               ⟨(some 18), none, .iaddr 1 (.t 16) (.t 17)⟩,
               ⟨(some 19), none, .load none (.t 18)⟩,
               ⟨(some 20), none, .mv (.t 1)⟩,
               ⟨(some 21), none, .mv (.t 5)⟩,
               ⟨(some 22), none, .iaddr 1 (.t 20) (.t 21)⟩,
               ⟨(some 23), none, .load none (.t 22)⟩,
               ⟨(some 24), none, .bin .neq (.t 19) (.t 23)⟩])
             (.cond (.t 24)
              (.seq
               (.reg [⟨(some 4), none, .mv (.c (.bool false))⟩])
               .ret)
              .skip))))
          (.reg [⟨(some 25), none, .bin .add (.t 13) (.c (.int .i64 1))⟩,
            ⟨(some 13), none, .take 25⟩])))))))
    (.seq
     (.reg [⟨(some 4), none, .mv (.c (.bool true))⟩])
     .ret))))
def ar95 : List AR := [.t 4]
theorem comp95 : Try.f95.body.bind (comp Try.prog 26) = some ac95 := by kernel_rfl
theorem cres95 : compRes Try.prog Try.f95.results.toList = some ar95 := by kernel_rfl
/-- slices.Equal[[]string,string] -/
def ac96 : AC :=
 (.seq
  (.reg [⟨(some 4), none, .mv (.c (.bool false))⟩])
  (.seq
   (.seq
    (.reg [⟨(some 6), none, .mv (.t 0)⟩,
      ⟨(some 7), none, .len false (.t 6)⟩,
      ⟨(some 8), none, .mv (.t 1)⟩,
      ⟨(some 9), none, .len false (.t 8)⟩,
      ⟨(some 10), none, .bin .neq (.t 7) (.t 9)⟩])
    (.cond (.t 10)
     (.seq
      (.reg [⟨(some 4), none, .mv (.c (.bool false))⟩])
      .ret)
     .skip))
   (.seq
    (.seq
     (.reg [⟨(some 11), none, .mv (.t 0)⟩,
       ⟨(some 12), none, .len false (.t 11)⟩,
       ⟨(some 13), none, .mv (.c (.int .i64 0))⟩])
     (.block 0
      (.loop
       (.seq
        (.reg [⟨(some 14), none, .bin .lss (.t 13) (.t 12)⟩])
        (.seq
         (.cond (.t 14)
          .skip
          (.exit 0))
         (.seq
          (.block 1
           (.seq
            (.reg [⟨(some 15), none, .take 13⟩,
              ⟨(some 5), none, .take 15⟩])
            (.seq
             (.dreg [] [⟨(some 16), none, .mv (.t 0)⟩,
               ⟨(some 17), none, .mv (.t 5)⟩,
               ⟨(some 18), none, .iaddr 1 (.t 16) (.t 17)⟩,
               ⟨(some 19), none, .load none (.t 18)⟩,
               ⟨(some 20), none, .mv (.t 1)⟩,
               ⟨(some 21), none, .mv (.t 5)⟩,
               ⟨(some 22), none, .iaddr 1 (.t 20) (.t 21)⟩,
               ⟨(some 23), none, .load none (.t 22)⟩,
               ⟨(some 24), none, .bin .neq (.t 19) (.t 23)⟩])
             (.cond (.t 24)
              (.seq
               (.reg [⟨(some 4), none, .mv (.c (.bool false))⟩])
               .ret)
              .skip))))
          (.reg [⟨(some 25), none, .bin .add (.t 13) (.c (.int .i64 1))⟩,
            ⟨(some 13), none, .take 25⟩])))))))
    (.seq
     (.reg [⟨(some 4), none, .mv (.c (.bool true))⟩])
     .ret))))
def ar96 : List AR := [.t 4]
theorem comp96 : Try.f96.body.bind (comp Try.prog 26) = some ac96 := by kernel_rfl
theorem cres96 : compRes Try.prog Try.f96.results.toList = some ar96 := by kernel_rfl
/-- bilander/wire.take -/
def ac97 : AC :=
 (.seq
  (.reg [⟨(some 6), none, .mv (.t 2)⟩])
  (.block 0
   (.seq
    (.reg [⟨(some 18), none, .bin .eql (.t 6) (.c (.int .i32 116))⟩,
      ⟨(some 17), none, .take 18⟩])
    (.cond (.t 17)
     (.reg [⟨(some 19), none, .mv (.t 1)⟩,
       ⟨(some 20), none, .mv (.t 0)⟩,
       ⟨(some 21), none, .callE 22 (.t 20) [(.c (.int .i64 255))]⟩,
       ⟨(some 22), none, .nilc (.t 19)⟩,
       ⟨(some 23), none, .faddr (.t 22) 1⟩,
       ⟨none, none, .store 1 (.t 23) (.t 21)⟩])
     (.seq
      (.reg [⟨(some 25), none, .bin .eql (.t 6) (.c (.int .i32 105))⟩,
        ⟨(some 24), none, .take 25⟩])
      (.cond (.t 24)
       (.reg [⟨(some 26), none, .mv (.t 1)⟩,
         ⟨(some 27), none, .mv (.t 0)⟩,
         ⟨(some 28), none, .callE 18 (.t 27) []⟩,
         ⟨(some 29), none, .nilc (.t 26)⟩,
         ⟨(some 30), none, .faddr (.t 29) 2⟩,
         ⟨none, none, .store 1 (.t 30) (.t 28)⟩])
       (.seq
        (.reg [⟨(some 32), none, .bin .eql (.t 6) (.c (.int .i32 112))⟩,
          ⟨(some 31), none, .take 32⟩])
        (.cond (.t 31)
         (.reg [⟨(some 33), none, .mv (.t 1)⟩,
           ⟨(some 34), none, .mv (.t 0)⟩,
           ⟨(some 35), none, .callE 18 (.t 34) []⟩,
           ⟨(some 36), none, .nilc (.t 33)⟩,
           ⟨(some 37), none, .faddr (.t 36) 3⟩,
           ⟨none, none, .store 1 (.t 37) (.t 35)⟩])
         (.seq
          (.reg [⟨(some 39), none, .bin .eql (.t 6) (.c (.int .i32 99))⟩,
            ⟨(some 38), none, .take 39⟩])
          (.cond (.t 38)
           (.reg [⟨(some 40), none, .mv (.t 1)⟩,
             ⟨(some 41), none, .mv (.t 0)⟩,
             ⟨(some 42), none, .callE 20 (.t 41) [(.c (.int .i64 1))]⟩,
             ⟨(some 43), none, .bin .eql (.t 42) (.c (.int .u64 1))⟩,
             ⟨(some 44), none, .nilc (.t 40)⟩,
             ⟨(some 45), none, .faddr (.t 44) 4⟩,
             ⟨none, none, .store 1 (.t 45) (.t 43)⟩])
           (.seq
            (.reg [⟨(some 47), none, .bin .eql (.t 6) (.c (.int .i32 102))⟩,
              ⟨(some 46), none, .take 47⟩])
            (.cond (.t 46)
             (.reg [⟨(some 48), none, .mv (.t 1)⟩,
               ⟨(some 49), none, .mv (.t 0)⟩,
               ⟨(some 50), none, .callE 20 (.t 49) [(.c (.int .i64 1))]⟩,
               ⟨(some 51), none, .bin .eql (.t 50) (.c (.int .u64 1))⟩,
               ⟨(some 52), none, .nilc (.t 48)⟩,
               ⟨(some 53), none, .faddr (.t 52) 5⟩,
               ⟨none, none, .store 1 (.t 53) (.t 51)⟩])
             (.seq
              (.reg [⟨(some 55), none, .bin .eql (.t 6) (.c (.int .i32 111))⟩,
                ⟨(some 54), none, .take 55⟩])
              (.cond (.t 54)
               (.reg [⟨(some 56), none, .mv (.t 1)⟩,
                 ⟨(some 57), none, .mv (.t 0)⟩,
                 ⟨(some 58), none, .callE 18 (.t 57) []⟩,
                 ⟨(some 59), none, .nilc (.t 56)⟩,
                 ⟨(some 60), none, .faddr (.t 59) 6⟩,
                 ⟨none, none, .store 1 (.t 60) (.t 58)⟩])
               (.seq
                (.reg [⟨(some 62), none, .bin .eql (.t 6) (.c (.int .i32 109))⟩,
                  ⟨(some 61), none, .take 62⟩])
                (.cond (.t 61)
                 (.reg [⟨(some 63), none, .mv (.t 1)⟩,
                   ⟨(some 64), none, .mv (.t 0)⟩,
                   ⟨(some 65), none, .callE 18 (.t 64) []⟩,
                   ⟨(some 66), none, .nilc (.t 63)⟩,
                   ⟨(some 67), none, .faddr (.t 66) 7⟩,
                   ⟨none, none, .store 1 (.t 67) (.t 65)⟩])
                 (.seq
                  (.reg [⟨(some 69), none, .bin .eql (.t 6) (.c (.int .i32 119))⟩,
                    ⟨(some 68), none, .take 69⟩])
                  (.cond (.t 68)
                   (.reg [⟨(some 70), none, .mv (.t 1)⟩,
                     ⟨(some 71), none, .mv (.t 0)⟩,
                     ⟨(some 72), none, .callE 18 (.t 71) []⟩,
                     ⟨(some 73), none, .nilc (.t 70)⟩,
                     ⟨(some 74), none, .faddr (.t 73) 8⟩,
                     ⟨none, none, .store 1 (.t 74) (.t 72)⟩])
                   (.seq
                    (.reg [⟨(some 76), none, .bin .eql (.t 6) (.c (.int .i32 103))⟩,
                      ⟨(some 75), none, .take 76⟩])
                    (.cond (.t 75)
                     (.reg [⟨(some 77), none, .mv (.t 1)⟩,
                       ⟨(some 78), none, .mv (.t 0)⟩,
                       ⟨(some 79), none, .callE 22 (.t 78) [(.c (.int .i64 255))]⟩,
                       ⟨(some 80), none, .nilc (.t 77)⟩,
                       ⟨(some 81), none, .faddr (.t 80) 9⟩,
                       ⟨none, none, .store 1 (.t 81) (.t 79)⟩])
                     (.seq
                      (.reg [⟨(some 83), none, .bin .eql (.t 6) (.c (.int .i32 107))⟩,
                        ⟨(some 82), none, .take 83⟩])
                      (.cond (.t 82)
                       (.reg [⟨(some 84), none, .mv (.t 1)⟩,
                         ⟨(some 85), none, .mv (.t 0)⟩,
                         ⟨(some 86), none, .callE 22 (.t 85) [(.c (.int .i64 255))]⟩,
                         ⟨(some 87), none, .nilc (.t 84)⟩,
                         ⟨(some 88), none, .faddr (.t 87) 10⟩,
                         ⟨none, none, .store 1 (.t 88) (.t 86)⟩])
                       (.seq
                        (.reg [⟨(some 90), none, .bin .eql (.t 6) (.c (.int .i32 110))⟩,
                          ⟨(some 89), none, .take 90⟩])
                        (.cond (.t 89)
                         (.reg [⟨(some 91), none, .mv (.t 1)⟩,
                           ⟨(some 92), none, .mv (.t 0)⟩,
                           ⟨(some 93), none, .callE 18 (.t 92) []⟩,
                           ⟨(some 94), none, .nilc (.t 91)⟩,
                           ⟨(some 95), none, .faddr (.t 94) 11⟩,
                           ⟨none, none, .store 1 (.t 95) (.t 93)⟩])
                         (.reg [⟨(some 8), none, .mv (.t 1)⟩,
                           ⟨(some 9), none, .mv (.t 0)⟩,
                           ⟨(some 10), none, .callE 22 (.t 9) [(.c (.int .i64 8192))]⟩,
                           ⟨(some 11), none, .s2b (.t 10)⟩,
                           ⟨(some 12), none, .call 102 [(.t 11)]⟩,
                           ⟨(some 7), none, .take 12⟩,
                           ⟨(some 13), none, .extS 7 0⟩,
                           ⟨(some 14), none, .extS 7 1⟩,
                           ⟨(some 15), none, .nilc (.t 8)⟩,
                           ⟨(some 16), none, .faddr (.t 15) 12⟩,
                           ⟨none, none, .store 6 (.t 16) (.t 13)⟩])))))))))))))))))))))))))
def ar97 : List AR := []
theorem comp97 : Try.f97.body.bind (comp Try.prog 96) = some ac97 := by kernel_rfl
theorem cres97 : compRes Try.prog Try.f97.results.toList = some ar97 := by kernel_rfl
/-- bilander/bilanderref22.field -/
def ac99 : AC :=
 (.seq
  (.reg [⟨(some 3), none, .box 2 (.t 0)⟩,
    ⟨(some 4), none, .box 18 (.t 1)⟩,
    ⟨(some 6), none, .alloc [.nils, (.int .i64 0)]⟩,
    ⟨(some 7), none, .alloc [(.int .u8 0), (.str (ByteArray.mk #[])), (.int .i64 0), (.int .i64 0), (.bool false), (.bool false), (.int .i64 0), (.int .i64 0), (.int .i64 0), (.str (ByteArray.mk #[])), (.str (ByteArray.mk #[])), (.int .i64 0), (.int .i64 0), (.int .i64 0), (.int .i64 0), (.int .i64 0), (.int .i64 0), .nils]⟩])
  (.seq
   (.reg [⟨(some 8), none, .mv (.c (.int .u64 0))⟩,
     ⟨(some 9), none, .mv (.c (.str (ByteArray.mk #[])))⟩])
   (.seq
    (.seq
     (.reg [⟨(some 10), none, .mv (.t 2)⟩])
     (.block 0
      (.seq
       (.reg [⟨(some 24), none, .bin .eql (.t 10) (.c (.int .u8 116))⟩,
         ⟨(some 23), none, .take 24⟩])
       (.cond (.t 23)
        (.reg [⟨(some 26), none, .load (some 2) (.t 3)⟩,
          ⟨(some 27), none, .call 21 [(.t 26), (.c (.int .i64 255))]⟩,
          ⟨(some 25), none, .take 27⟩,
          ⟨(some 28), none, .extS 25 0⟩,
          ⟨(some 29), none, .extS 25 1⟩,
          ⟨none, none, .store 2 (.t 3) (.t 28)⟩,
          ⟨(some 30), none, .faddr (.t 4) 1⟩,
          ⟨none, none, .store 1 (.t 30) (.t 29)⟩])
        (.seq
         (.reg [⟨(some 32), none, .bin .eql (.t 10) (.c (.int .u8 105))⟩,
           ⟨(some 31), none, .take 32⟩])
         (.cond (.t 31)
          (.reg [⟨(some 34), none, .load (some 2) (.t 3)⟩,
            ⟨(some 35), none, .call 17 [(.t 34)]⟩,
            ⟨(some 33), none, .take 35⟩,
            ⟨(some 36), none, .extS 33 0⟩,
            ⟨(some 37), none, .extS 33 1⟩,
            ⟨none, none, .store 2 (.t 3) (.t 36)⟩,
            ⟨(some 38), none, .faddr (.t 4) 2⟩,
            ⟨none, none, .store 1 (.t 38) (.t 37)⟩])
          (.seq
           (.reg [⟨(some 40), none, .bin .eql (.t 10) (.c (.int .u8 112))⟩,
             ⟨(some 39), none, .take 40⟩])
           (.cond (.t 39)
            (.reg [⟨(some 42), none, .load (some 2) (.t 3)⟩,
              ⟨(some 43), none, .call 17 [(.t 42)]⟩,
              ⟨(some 41), none, .take 43⟩,
              ⟨(some 44), none, .extS 41 0⟩,
              ⟨(some 45), none, .extS 41 1⟩,
              ⟨none, none, .store 2 (.t 3) (.t 44)⟩,
              ⟨(some 46), none, .faddr (.t 4) 3⟩,
              ⟨none, none, .store 1 (.t 46) (.t 45)⟩])
            (.seq
             (.reg [⟨(some 48), none, .bin .eql (.t 10) (.c (.int .u8 99))⟩,
               ⟨(some 47), none, .take 48⟩])
             (.cond (.t 47)
              (.seq
               (.reg [⟨(some 50), none, .load (some 2) (.t 3)⟩,
                 ⟨(some 51), none, .call 19 [(.t 50), (.c (.int .i64 1))]⟩,
                 ⟨(some 49), none, .take 51⟩,
                 ⟨(some 52), none, .extS 49 0⟩,
                 ⟨(some 53), none, .ext 49 1⟩,
                 ⟨none, none, .store 2 (.t 3) (.t 52)⟩,
                 ⟨(some 8), none, .take 53⟩])
               (.reg [⟨(some 54), none, .mv (.t 8)⟩,
                 ⟨(some 55), none, .bin .eql (.t 54) (.c (.int .u64 1))⟩,
                 ⟨(some 56), none, .faddr (.t 4) 4⟩,
                 ⟨none, none, .store 1 (.t 56) (.t 55)⟩]))
              (.seq
               (.reg [⟨(some 58), none, .bin .eql (.t 10) (.c (.int .u8 102))⟩,
                 ⟨(some 57), none, .take 58⟩])
               (.cond (.t 57)
                (.seq
                 (.reg [⟨(some 60), none, .load (some 2) (.t 3)⟩,
                   ⟨(some 61), none, .call 19 [(.t 60), (.c (.int .i64 1))]⟩,
                   ⟨(some 59), none, .take 61⟩,
                   ⟨(some 62), none, .extS 59 0⟩,
                   ⟨(some 63), none, .ext 59 1⟩,
                   ⟨none, none, .store 2 (.t 3) (.t 62)⟩,
                   ⟨(some 8), none, .take 63⟩])
                 (.reg [⟨(some 64), none, .mv (.t 8)⟩,
                   ⟨(some 65), none, .bin .eql (.t 64) (.c (.int .u64 1))⟩,
                   ⟨(some 66), none, .faddr (.t 4) 5⟩,
                   ⟨none, none, .store 1 (.t 66) (.t 65)⟩]))
                (.seq
                 (.reg [⟨(some 68), none, .bin .eql (.t 10) (.c (.int .u8 111))⟩,
                   ⟨(some 67), none, .take 68⟩])
                 (.cond (.t 67)
                  (.reg [⟨(some 70), none, .load (some 2) (.t 3)⟩,
                    ⟨(some 71), none, .call 17 [(.t 70)]⟩,
                    ⟨(some 69), none, .take 71⟩,
                    ⟨(some 72), none, .extS 69 0⟩,
                    ⟨(some 73), none, .extS 69 1⟩,
                    ⟨none, none, .store 2 (.t 3) (.t 72)⟩,
                    ⟨(some 74), none, .faddr (.t 4) 6⟩,
                    ⟨none, none, .store 1 (.t 74) (.t 73)⟩])
                  (.seq
                   (.reg [⟨(some 76), none, .bin .eql (.t 10) (.c (.int .u8 109))⟩,
                     ⟨(some 75), none, .take 76⟩])
                   (.cond (.t 75)
                    (.reg [⟨(some 78), none, .load (some 2) (.t 3)⟩,
                      ⟨(some 79), none, .call 17 [(.t 78)]⟩,
                      ⟨(some 77), none, .take 79⟩,
                      ⟨(some 80), none, .extS 77 0⟩,
                      ⟨(some 81), none, .extS 77 1⟩,
                      ⟨none, none, .store 2 (.t 3) (.t 80)⟩,
                      ⟨(some 82), none, .faddr (.t 4) 7⟩,
                      ⟨none, none, .store 1 (.t 82) (.t 81)⟩])
                    (.seq
                     (.reg [⟨(some 84), none, .bin .eql (.t 10) (.c (.int .u8 119))⟩,
                       ⟨(some 83), none, .take 84⟩])
                     (.cond (.t 83)
                      (.reg [⟨(some 86), none, .load (some 2) (.t 3)⟩,
                        ⟨(some 87), none, .call 17 [(.t 86)]⟩,
                        ⟨(some 85), none, .take 87⟩,
                        ⟨(some 88), none, .extS 85 0⟩,
                        ⟨(some 89), none, .extS 85 1⟩,
                        ⟨none, none, .store 2 (.t 3) (.t 88)⟩,
                        ⟨(some 90), none, .faddr (.t 4) 8⟩,
                        ⟨none, none, .store 1 (.t 90) (.t 89)⟩])
                      (.seq
                       (.reg [⟨(some 92), none, .bin .eql (.t 10) (.c (.int .u8 103))⟩,
                         ⟨(some 91), none, .take 92⟩])
                       (.cond (.t 91)
                        (.reg [⟨(some 94), none, .load (some 2) (.t 3)⟩,
                          ⟨(some 95), none, .call 21 [(.t 94), (.c (.int .i64 255))]⟩,
                          ⟨(some 93), none, .take 95⟩,
                          ⟨(some 96), none, .extS 93 0⟩,
                          ⟨(some 97), none, .extS 93 1⟩,
                          ⟨none, none, .store 2 (.t 3) (.t 96)⟩,
                          ⟨(some 98), none, .faddr (.t 4) 9⟩,
                          ⟨none, none, .store 1 (.t 98) (.t 97)⟩])
                        (.seq
                         (.reg [⟨(some 100), none, .bin .eql (.t 10) (.c (.int .u8 107))⟩,
                           ⟨(some 99), none, .take 100⟩])
                         (.cond (.t 99)
                          (.reg [⟨(some 102), none, .load (some 2) (.t 3)⟩,
                            ⟨(some 103), none, .call 21 [(.t 102), (.c (.int .i64 255))]⟩,
                            ⟨(some 101), none, .take 103⟩,
                            ⟨(some 104), none, .extS 101 0⟩,
                            ⟨(some 105), none, .extS 101 1⟩,
                            ⟨none, none, .store 2 (.t 3) (.t 104)⟩,
                            ⟨(some 106), none, .faddr (.t 4) 10⟩,
                            ⟨none, none, .store 1 (.t 106) (.t 105)⟩])
                          (.seq
                           (.reg [⟨(some 108), none, .bin .eql (.t 10) (.c (.int .u8 110))⟩,
                             ⟨(some 107), none, .take 108⟩])
                           (.cond (.t 107)
                            (.reg [⟨(some 110), none, .load (some 2) (.t 3)⟩,
                              ⟨(some 111), none, .call 17 [(.t 110)]⟩,
                              ⟨(some 109), none, .take 111⟩,
                              ⟨(some 112), none, .extS 109 0⟩,
                              ⟨(some 113), none, .extS 109 1⟩,
                              ⟨none, none, .store 2 (.t 3) (.t 112)⟩,
                              ⟨(some 114), none, .faddr (.t 4) 11⟩,
                              ⟨none, none, .store 1 (.t 114) (.t 113)⟩])
                            (.seq
                             (.reg [⟨(some 12), none, .load (some 2) (.t 3)⟩,
                               ⟨(some 13), none, .call 21 [(.t 12), (.c (.int .i64 1073741824))]⟩,
                               ⟨(some 11), none, .take 13⟩,
                               ⟨(some 14), none, .extS 11 0⟩,
                               ⟨(some 15), none, .ext 11 1⟩,
                               ⟨none, none, .store 2 (.t 3) (.t 14)⟩,
                               ⟨(some 9), none, .take 15⟩])
                             (.reg [⟨(some 17), none, .mv (.t 9)⟩,
                               ⟨(some 18), none, .s2b (.t 17)⟩,
                               ⟨(some 19), none, .call 106 [(.t 18)]⟩,
                               ⟨(some 16), none, .take 19⟩,
                               ⟨(some 20), none, .extS 16 0⟩,
                               ⟨(some 21), none, .extS 16 1⟩,
                               ⟨(some 22), none, .faddr (.t 4) 12⟩,
                               ⟨none, none, .store 6 (.t 22) (.t 20)⟩]))))))))))))))))))))))))))
    (.seq
     (.dreg [(3, 3), (4, 4), (6, 6), (7, 7)] [⟨(some 115), none, .load (some 2) (.t 3)⟩,
       ⟨(some 116), none, .load (some 18) (.t 4)⟩,
       ⟨none, none, .store 2 (.t 6) (.t 115)⟩,
       ⟨none, none, .store 18 (.t 7) (.t 116)⟩])
     .ret))))
def ar99 : List AR := [.c 6 (some 2), .c 7 (some 18)]
theorem comp99 : Try.f99.body.bind (comp Try.prog 117) = some ac99 := by kernel_rfl
theorem cres99 : compRes Try.prog Try.f99.results.toList = some ar99 := by kernel_rfl
/-- bilander/wire.each[bilander/api.Batch] -/
def ac100 : AC :=
 (.seq
  (.reg [⟨(some 4), none, .mv (.c .nils)⟩])
  (.seq
   (.reg [⟨(some 5), none, .mv (.c .nils)⟩])
   (.seq
    (.seq
     (.reg [⟨(some 6), none, .mv (.t 0)⟩,
       ⟨(some 7), none, .callE 18 (.t 6) []⟩,
       ⟨(some 8), none, .minmax false (.t 7) (.c (.int .i64 65))⟩,
       ⟨(some 9), none, .minmax true (.c (.int .i64 0)) (.t 8)⟩,
       ⟨(some 10), none, .mv (.c (.int .i64 0))⟩])
     (.block 0
      (.loop
       (.seq
        (.reg [⟨(some 11), none, .bin .lss (.t 10) (.t 9)⟩])
        (.seq
         (.cond (.t 11)
          .skip
          (.exit 0))
         (.seq
          (.block 1
           (.reg [⟨(some 12), none, .take 5⟩,
             ⟨(some 13), none, .mv (.t 1)⟩,
             ⟨(some 14), none, .callV (.t 13) []⟩,
             ⟨(some 15), none, .bsl 6 1 [(.int .i64 0), (.int .i64 0), (.int .i64 0), (.int .i64 0), (.int .i64 0), .nils] [(0, (.t 14))]⟩,
             ⟨(some 16), none, .app 6 64 12 (.t 15)⟩,
             ⟨(some 5), none, .take 16⟩]))
          (.reg [⟨(some 17), none, .bin .add (.t 10) (.c (.int .i64 1))⟩,
            ⟨(some 10), none, .take 17⟩])))))))
    (.seq
     (.reg [⟨(some 18), none, .take 5⟩,
       ⟨(some 4), none, .take 18⟩])
     .ret))))
def ar100 : List AR := [.t 4]
theorem comp100 : Try.f100.body.bind (comp Try.prog 19) = some ac100 := by kernel_rfl
theorem cres100 : compRes Try.prog Try.f100.results.toList = some ar100 := by kernel_rfl
/-- bilander/wire.GetResponse$1 -/
def ac101 : AC :=
 (.seq
  (.reg [⟨(some 1), none, .alloc [(.int .i64 0), (.int .i64 0), (.int .i64 0), (.int .i64 0), (.int .i64 0), .nils]⟩])
  (.seq
   (.reg [⟨(some 5), none, .load none (.t 0)⟩,
     ⟨(some 6), none, .callE 22 (.t 5) [(.c (.int .i64 8192))]⟩,
     ⟨(some 7), none, .s2b (.t 6)⟩,
     ⟨(some 8), none, .call 102 [(.t 7)]⟩,
     ⟨(some 4), none, .take 8⟩,
     ⟨(some 9), none, .extS 4 0⟩,
     ⟨(some 10), none, .ext 4 1⟩,
     ⟨(some 2), none, .alloc [(.int .i64 0), (.int .i64 0), (.int .i64 0), (.int .i64 0), (.int .i64 0), .nils]⟩,
     ⟨none, none, .store 6 (.t 2) (.t 9)⟩,
     ⟨(some 3), none, .take 10⟩])
   (.seq
    (.reg [⟨(some 11), none, .load (some 6) (.t 2)⟩,
      ⟨none, none, .store 6 (.t 1) (.t 11)⟩])
    .ret)))
def ar101 : List AR := [.c 1 (some 6)]
theorem comp101 : Try.f101.body.bind (comp Try.prog 12) = some ac101 := by kernel_rfl
theorem cres101 : compRes Try.prog Try.f101.results.toList = some ar101 := by kernel_rfl
/-- bilander/wire.each[int] -/
def ac103 : AC :=
 (.seq
  (.reg [⟨(some 4), none, .mv (.c .nils)⟩])
  (.seq
   (.reg [⟨(some 5), none, .mv (.c .nils)⟩])
   (.seq
    (.seq
     (.reg [⟨(some 6), none, .mv (.t 0)⟩,
       ⟨(some 7), none, .callE 18 (.t 6) []⟩,
       ⟨(some 8), none, .minmax false (.t 7) (.c (.int .i64 65))⟩,
       ⟨(some 9), none, .minmax true (.c (.int .i64 0)) (.t 8)⟩,
       ⟨(some 10), none, .mv (.c (.int .i64 0))⟩])
     (.block 0
      (.loop
       (.seq
        (.reg [⟨(some 11), none, .bin .lss (.t 10) (.t 9)⟩])
        (.seq
         (.cond (.t 11)
          .skip
          (.exit 0))
         (.seq
          (.block 1
           (.reg [⟨(some 12), none, .take 5⟩,
             ⟨(some 13), none, .mv (.t 1)⟩,
             ⟨(some 14), none, .callV (.t 13) []⟩,
             ⟨(some 15), none, .bsl 1 1 [(.int .i64 0)] [(0, (.t 14))]⟩,
             ⟨(some 16), none, .app 1 8 12 (.t 15)⟩,
             ⟨(some 5), none, .take 16⟩]))
          (.reg [⟨(some 17), none, .bin .add (.t 10) (.c (.int .i64 1))⟩,
            ⟨(some 10), none, .take 17⟩])))))))
    (.seq
     (.reg [⟨(some 18), none, .take 5⟩,
       ⟨(some 4), none, .take 18⟩])
     .ret))))
def ar103 : List AR := [.t 4]
theorem comp103 : Try.f103.body.bind (comp Try.prog 19) = some ac103 := by kernel_rfl
theorem cres103 : compRes Try.prog Try.f103.results.toList = some ar103 := by kernel_rfl
/-- bilander/wire.each[string] -/
def ac104 : AC :=
 (.seq
  (.reg [⟨(some 4), none, .mv (.c .nils)⟩])
  (.seq
   (.reg [⟨(some 5), none, .mv (.c .nils)⟩])
   (.seq
    (.seq
     (.reg [⟨(some 6), none, .mv (.t 0)⟩,
       ⟨(some 7), none, .callE 18 (.t 6) []⟩,
       ⟨(some 8), none, .minmax false (.t 7) (.c (.int .i64 65))⟩,
       ⟨(some 9), none, .minmax true (.c (.int .i64 0)) (.t 8)⟩,
       ⟨(some 10), none, .mv (.c (.int .i64 0))⟩])
     (.block 0
      (.loop
       (.seq
        (.reg [⟨(some 11), none, .bin .lss (.t 10) (.t 9)⟩])
        (.seq
         (.cond (.t 11)
          .skip
          (.exit 0))
         (.seq
          (.block 1
           (.reg [⟨(some 12), none, .take 5⟩,
             ⟨(some 13), none, .mv (.t 1)⟩,
             ⟨(some 14), none, .callV (.t 13) []⟩,
             ⟨(some 15), none, .bsl 1 1 [(.str (ByteArray.mk #[]))] [(0, (.t 14))]⟩,
             ⟨(some 16), none, .app 1 16 12 (.t 15)⟩,
             ⟨(some 5), none, .take 16⟩]))
          (.reg [⟨(some 17), none, .bin .add (.t 10) (.c (.int .i64 1))⟩,
            ⟨(some 10), none, .take 17⟩])))))))
    (.seq
     (.reg [⟨(some 18), none, .take 5⟩,
       ⟨(some 4), none, .take 18⟩])
     .ret))))
def ar104 : List AR := [.t 4]
theorem comp104 : Try.f104.body.bind (comp Try.prog 19) = some ac104 := by kernel_rfl
theorem cres104 : compRes Try.prog Try.f104.results.toList = some ar104 := by kernel_rfl
/-- bilander/wire.GetResponse$2 -/
def ac105 : AC :=
 (.seq
  (.reg [⟨(some 1), none, .mv (.c (.str (ByteArray.mk #[])))⟩])
  (.seq
   (.reg [⟨(some 2), none, .load none (.t 0)⟩,
     ⟨(some 3), none, .callE 22 (.t 2) [(.c (.int .i64 255))]⟩,
     ⟨(some 1), none, .take 3⟩])
   .ret))
def ar105 : List AR := [.t 1]
theorem comp105 : Try.f105.body.bind (comp Try.prog 4) = some ac105 := by kernel_rfl
theorem cres105 : compRes Try.prog Try.f105.results.toList = some ar105 := by kernel_rfl
/-- bilander/wire.zero -/
def ac132 : AC :=
 (.seq
  (.reg [⟨(some 4), none, .mv (.t 1)⟩])
  (.block 0
   (.seq
    (.reg [⟨(some 6), none, .bin .eql (.t 4) (.c (.int .i32 116))⟩,
      ⟨(some 5), none, .take 6⟩])
    (.cond (.t 5)
     (.reg [⟨(some 7), none, .mv (.t 0)⟩,
       ⟨(some 8), none, .nilc (.t 7)⟩,
       ⟨(some 9), none, .faddr (.t 8) 1⟩,
       ⟨none, none, .store 1 (.t 9) (.c (.str (ByteArray.mk #[])))⟩])
     (.seq
      (.reg [⟨(some 11), none, .bin .eql (.t 4) (.c (.int .i32 105))⟩,
        ⟨(some 10), none, .take 11⟩])
      (.cond (.t 10)
       (.reg [⟨(some 12), none, .mv (.t 0)⟩,
         ⟨(some 13), none, .nilc (.t 12)⟩,
         ⟨(some 14), none, .faddr (.t 13) 2⟩,
         ⟨none, none, .store 1 (.t 14) (.c (.int .i64 0))⟩])
       (.seq
        (.reg [⟨(some 16), none, .bin .eql (.t 4) (.c (.int .i32 112))⟩,
          ⟨(some 15), none, .take 16⟩])
        (.cond (.t 15)
         (.reg [⟨(some 17), none, .mv (.t 0)⟩,
           ⟨(some 18), none, .nilc (.t 17)⟩,
           ⟨(some 19), none, .faddr (.t 18) 3⟩,
           ⟨none, none, .store 1 (.t 19) (.c (.int .i64 0))⟩])
         (.seq
          (.reg [⟨(some 21), none, .bin .eql (.t 4) (.c (.int .i32 99))⟩,
            ⟨(some 20), none, .take 21⟩])
          (.cond (.t 20)
           (.reg [⟨(some 22), none, .mv (.t 0)⟩,
             ⟨(some 23), none, .nilc (.t 22)⟩,
             ⟨(some 24), none, .faddr (.t 23) 4⟩,
             ⟨none, none, .store 1 (.t 24) (.c (.bool false))⟩])
           (.seq
            (.reg [⟨(some 26), none, .bin .eql (.t 4) (.c (.int .i32 102))⟩,
              ⟨(some 25), none, .take 26⟩])
            (.cond (.t 25)
             (.reg [⟨(some 27), none, .mv (.t 0)⟩,
               ⟨(some 28), none, .nilc (.t 27)⟩,
               ⟨(some 29), none, .faddr (.t 28) 5⟩,
               ⟨none, none, .store 1 (.t 29) (.c (.bool false))⟩])
             (.seq
              (.reg [⟨(some 31), none, .bin .eql (.t 4) (.c (.int .i32 111))⟩,
                ⟨(some 30), none, .take 31⟩])
              (.cond (.t 30)
               (.reg [⟨(some 32), none, .mv (.t 0)⟩,
                 ⟨(some 33), none, .nilc (.t 32)⟩,
                 ⟨(some 34), none, .faddr (.t 33) 6⟩,
                 ⟨none, none, .store 1 (.t 34) (.c (.int .i64 0))⟩])
               (.seq
                (.reg [⟨(some 36), none, .bin .eql (.t 4) (.c (.int .i32 109))⟩,
                  ⟨(some 35), none, .take 36⟩])
                (.cond (.t 35)
                 (.reg [⟨(some 37), none, .mv (.t 0)⟩,
                   ⟨(some 38), none, .nilc (.t 37)⟩,
                   ⟨(some 39), none, .faddr (.t 38) 7⟩,
                   ⟨none, none, .store 1 (.t 39) (.c (.int .i64 0))⟩])
                 (.seq
                  (.reg [⟨(some 41), none, .bin .eql (.t 4) (.c (.int .i32 119))⟩,
                    ⟨(some 40), none, .take 41⟩])
                  (.cond (.t 40)
                   (.reg [⟨(some 42), none, .mv (.t 0)⟩,
                     ⟨(some 43), none, .nilc (.t 42)⟩,
                     ⟨(some 44), none, .faddr (.t 43) 8⟩,
                     ⟨none, none, .store 1 (.t 44) (.c (.int .i64 0))⟩])
                   (.seq
                    (.reg [⟨(some 46), none, .bin .eql (.t 4) (.c (.int .i32 103))⟩,
                      ⟨(some 45), none, .take 46⟩])
                    (.cond (.t 45)
                     (.reg [⟨(some 47), none, .mv (.t 0)⟩,
                       ⟨(some 48), none, .nilc (.t 47)⟩,
                       ⟨(some 49), none, .faddr (.t 48) 9⟩,
                       ⟨none, none, .store 1 (.t 49) (.c (.str (ByteArray.mk #[])))⟩])
                     (.seq
                      (.reg [⟨(some 51), none, .bin .eql (.t 4) (.c (.int .i32 107))⟩,
                        ⟨(some 50), none, .take 51⟩])
                      (.cond (.t 50)
                       (.reg [⟨(some 52), none, .mv (.t 0)⟩,
                         ⟨(some 53), none, .nilc (.t 52)⟩,
                         ⟨(some 54), none, .faddr (.t 53) 10⟩,
                         ⟨none, none, .store 1 (.t 54) (.c (.str (ByteArray.mk #[])))⟩])
                       (.seq
                        (.reg [⟨(some 56), none, .bin .eql (.t 4) (.c (.int .i32 110))⟩,
                          ⟨(some 55), none, .take 56⟩])
                        (.cond (.t 55)
                         (.reg [⟨(some 57), none, .mv (.t 0)⟩,
                           ⟨(some 58), none, .nilc (.t 57)⟩,
                           ⟨(some 59), none, .faddr (.t 58) 11⟩,
                           ⟨none, none, .store 1 (.t 59) (.c (.int .i64 0))⟩])
                         (.seq
                          (.reg [⟨(some 61), none, .bin .eql (.t 4) (.c (.int .i32 98))⟩,
                            ⟨(some 60), none, .take 61⟩])
                          (.cond (.t 60)
                           (.reg [⟨(some 62), none, .mv (.t 0)⟩,
                             ⟨(some 63), none, .build [(.int .i64 0), (.int .i64 0), (.int .i64 0), (.int .i64 0), (.int .i64 0), .nils] []⟩,
                             ⟨(some 64), none, .nilc (.t 62)⟩,
                             ⟨(some 65), none, .faddr (.t 64) 12⟩,
                             ⟨none, none, .store 6 (.t 65) (.t 63)⟩])
                           .skip))))))))))))))))))))))))))
def ar132 : List AR := []
theorem comp132 : Try.f132.body.bind (comp Try.prog 66) = some ac132 := by kernel_rfl
theorem cres132 : compRes Try.prog Try.f132.results.toList = some ar132 := by kernel_rfl
/-- bilander/bilanderref22.has -/
def ac133 : AC :=
 (.seq
  (.reg [⟨(some 4), none, .mv (.c (.bool false))⟩])
  (.seq
   (.seq
    (.reg [⟨(some 5), none, .mv (.c (.int .i64 0))⟩])
    (.block 0
     (.loop
      (.seq
       (.seq
        (.reg [⟨(some 6), none, .mv (.t 5)⟩,
          ⟨(some 7), none, .mv (.t 0)⟩,
          ⟨(some 8), none, .len true (.t 7)⟩,
          ⟨(some 9), none, .bin .lss (.t 6) (.t 8)⟩])
        (.cond (.t 9)
         .skip
         (.exit 0)))
       (.seq
        (.block 1
         (.seq
          (.reg [⟨(some 12), none, .mv (.t 0)⟩,
            ⟨(some 13), none, .mv (.t 5)⟩,
            ⟨(some 14), none, .idx (.t 12) (.t 13)⟩,
            ⟨(some 15), none, .mv (.t 1)⟩,
            ⟨(some 16), none, .bin .eql (.t 14) (.t 15)⟩])
          (.cond (.t 16)
           (.seq
            (.reg [⟨(some 4), none, .mv (.c (.bool true))⟩])
            .ret)
           .skip)))
        (.reg [⟨(some 10), none, .take 5⟩,
          ⟨(some 11), none, .bin .add (.t 10) (.c (.int .i64 1))⟩,
          ⟨(some 5), none, .take 11⟩]))))))
   (.seq
    (.reg [⟨(some 4), none, .mv (.c (.bool false))⟩])
    .ret)))
def ar133 : List AR := [.t 4]
theorem comp133 : Try.f133.body.bind (comp Try.prog 17) = some ac133 := by kernel_rfl
theorem cres133 : compRes Try.prog Try.f133.results.toList = some ar133 := by kernel_rfl
/-- slices.IndexFunc[[]string,string] -/
def ac136 : AC :=
 (.seq
  (.reg [⟨(some 4), none, .mv (.c (.int .i64 0))⟩])
  (.seq
   (.seq
    (.reg [⟨(some 6), none, .mv (.t 0)⟩,
      ⟨(some 7), none, .len false (.t 6)⟩,
      ⟨(some 8), none, .mv (.c (.int .i64 0))⟩])
    (.block 0
     (.loop
      (.seq
       (.reg [⟨(some 9), none, .bin .lss (.t 8) (.t 7)⟩])
       (.seq
        (.cond (.t 9)
         .skip
         (.exit 0))
        (.seq
         (.block 1
          (.seq
           (.reg [⟨(some 10), none, .take 8⟩,
             ⟨(some 5), none, .take 10⟩])
           (.seq
            (.reg [⟨(some 11), none, .mv (.t 1)⟩,
              ⟨(some 12), none, .mv (.t 0)⟩,
              ⟨(some 13), none, .mv (.t 5)⟩,
              ⟨(some 14), none, .iaddr 1 (.t 12) (.t 13)⟩,
              ⟨(some 15), none, .load none (.t 14)⟩,
              ⟨(some 16), none, .callV (.t 11) [(.t 15)]⟩])
            (.cond (.t 16)
             (.seq
              (.reg [⟨(some 17), none, .take 5⟩,
                ⟨(some 4), none, .take 17⟩])
              .ret)
             .skip))))
         (.reg [⟨(some 18), none, .bin .add (.t 8) (.c (.int .i64 1))⟩,
           ⟨(some 8), none, .take 18⟩])))))))
   (.seq
    (.reg [⟨(some 4), none, .mv (.c (.int .i64 (-1)))⟩])
    .ret)))
def ar136 : List AR := [.t 4]
theorem comp136 : Try.f136.body.bind (comp Try.prog 19) = some ac136 := by kernel_rfl
theorem cres136 : compRes Try.prog Try.f136.results.toList = some ar136 := by kernel_rfl
end Go.Proofs.Ytflcdbfcipkhkaa
