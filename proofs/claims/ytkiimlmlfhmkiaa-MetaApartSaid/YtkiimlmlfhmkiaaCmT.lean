import Derived.Test.YtkiimlmlfhmkiaaAvL3
import Derived.Test.YtkiimlmlfhmkiaaProg
import Derived.KernelRfl

set_option maxRecDepth 100000
namespace Go.Proofs.Ytkiimlmlfhmkiaa
open Go.Av
/-- bilander/bilanderlaw08.MetaPuts -/
def ac3 : AC :=
 (.seq
  (.reg [⟨(some 3), none, .box 9 (.t 0)⟩,
    ⟨(some 4), none, .box 9 (.t 1)⟩,
    ⟨(some 6), none, .mv (.c (.bool false))⟩])
  (.seq
   (.seq
    (.reg [⟨(some 11), none, .load (some 9) (.t 3)⟩,
      ⟨(some 12), none, .load (some 9) (.t 4)⟩,
      ⟨(some 13), none, .bsl 9 2 [(.int .u8 0), (.int .i64 0), (.int .i64 0), (.str (ByteArray.mk #[])), (.int .i64 0), (.bool false), (.int .i64 0), (.int .i64 0), (.int .i64 0)] [(0, (.t 11)), (1, (.t 12))]⟩,
      ⟨(some 14), none, .call 14 [(.t 13), (.c (.int .i64 2))]⟩,
      ⟨(some 15), none, .una .not (.t 14)⟩,
      ⟨(some 16), none, .take 15⟩,
      ⟨(some 17), (some (16, false)), .mv (.t 2)⟩,
      ⟨(some 18), (some (16, false)), .len true (.t 17)⟩,
      ⟨(some 19), (some (16, false)), .bin .gtr (.t 18) (.c (.int .i64 100))⟩,
      ⟨(some 20), none, .pick (.t 16) (.c (.bool true)) (.t 19)⟩])
    (.cond (.t 20)
     (.seq
      (.reg [⟨(some 21), none, .call 15 []⟩,
        ⟨(some 6), none, .take 21⟩])
      .ret)
     .skip))
   (.seq
    (.reg [⟨(some 23), none, .load (some 9) (.t 3)⟩,
      ⟨(some 24), none, .call 16 [(.t 23)]⟩,
      ⟨(some 22), none, .take 24⟩,
      ⟨(some 25), none, .ext 22 0⟩,
      ⟨(some 26), none, .ext 22 1⟩,
      ⟨(some 7), none, .take 25⟩,
      ⟨(some 8), none, .take 26⟩])
    (.seq
     (.reg [⟨(some 28), none, .load (some 9) (.t 3)⟩,
       ⟨(some 29), none, .call 17 [(.t 28)]⟩,
       ⟨(some 27), none, .take 29⟩,
       ⟨(some 30), none, .ext 27 0⟩,
       ⟨(some 31), none, .ext 27 1⟩,
       ⟨(some 9), none, .take 30⟩,
       ⟨(some 10), none, .take 31⟩])
     (.seq
      (.dreg [] [⟨(some 32), none, .mv (.t 7)⟩,
        ⟨(some 33), none, .b2s (.t 32)⟩,
        ⟨(some 34), none, .mv (.t 9)⟩,
        ⟨(some 35), none, .b2s (.t 34)⟩,
        ⟨(some 36), none, .bin .eql (.t 33) (.t 35)⟩,
        ⟨(some 37), none, .mv (.t 36)⟩,
        ⟨(some 38), (some (37, true)), .mv (.t 8)⟩,
        ⟨(some 39), (some (37, true)), .mv (.t 10)⟩,
        ⟨(some 40), (some (37, true)), .bin .eql (.t 38) (.t 39)⟩,
        ⟨(some 41), none, .pick (.t 37) (.t 40) (.c (.bool false))⟩,
        ⟨(some 42), none, .mv (.t 41)⟩,
        ⟨(some 43), (some (42, true)), .load (some 9) (.t 3)⟩,
        ⟨(some 44), (some (42, true)), .call 18 [(.t 43)]⟩,
        ⟨(some 45), (some (42, true)), .mv (.t 10)⟩,
        ⟨(some 46), (some (42, true)), .bin .eql (.t 44) (.t 45)⟩,
        ⟨(some 47), none, .pick (.t 42) (.t 46) (.c (.bool false))⟩,
        ⟨(some 48), none, .mv (.t 47)⟩,
        ⟨(some 49), (some (48, true)), .load (some 9) (.t 3)⟩,
        ⟨(some 50), (some (48, true)), .load (some 9) (.t 4)⟩,
        ⟨(some 51), (some (48, true)), .call 19 [(.t 49), (.t 50)]⟩,
        ⟨(some 52), (some (48, true)), .load (some 9) (.t 3)⟩,
        ⟨(some 53), (some (48, true)), .load (some 9) (.t 4)⟩,
        ⟨(some 54), (some (48, true)), .eqs [1, 1, 1, 2, 1, 0, 1, 1, 1] false (.t 52) (.t 53)⟩,
        ⟨(some 55), (some (48, true)), .beq false (.t 51) (.t 54)⟩,
        ⟨(some 56), none, .pick (.t 48) (.t 55) (.c (.bool false))⟩,
        ⟨(some 57), none, .mv (.t 56)⟩,
        ⟨(some 58), (some (57, true)), .mv (.t 2)⟩,
        ⟨(some 59), (some (57, true)), .call 20 [(.t 58)]⟩,
        ⟨(some 60), (some (57, true)), .mv (.t 2)⟩,
        ⟨(some 61), (some (57, true)), .call 21 [(.t 60)]⟩,
        ⟨(some 62), (some (57, true)), .beq false (.t 59) (.t 61)⟩,
        ⟨(some 63), none, .pick (.t 57) (.t 62) (.c (.bool false))⟩,
        ⟨(some 64), none, .mv (.t 63)⟩,
        ⟨(some 65), (some (64, true)), .call 15 []⟩,
        ⟨(some 66), none, .pick (.t 64) (.t 65) (.c (.bool false))⟩,
        ⟨(some 6), none, .take 66⟩])
      .ret)))))
def ar3 : List AR := [.t 6]
theorem comp3 : Try.f3.body.bind (comp Try.prog 67) = some ac3 := by kernel_rfl
theorem cres3 : compRes Try.prog Try.f3.results.toList = some ar3 := by kernel_rfl
/-- bilander/bilanderlaw08.MetaGets -/
def ac4 : AC :=
 (.seq
  (.reg [⟨(some 4), none, .mv (.c (.bool false))⟩])
  (.seq
   (.seq
    (.reg [⟨(some 15), none, .mv (.t 0)⟩,
      ⟨(some 16), none, .len false (.t 15)⟩,
      ⟨(some 17), none, .bin .gtr (.t 16) (.c (.int .i64 600))⟩,
      ⟨(some 18), none, .take 17⟩,
      ⟨(some 19), (some (18, false)), .mv (.t 1)⟩,
      ⟨(some 20), (some (18, false)), .len false (.t 19)⟩,
      ⟨(some 21), (some (18, false)), .bin .gtr (.t 20) (.c (.int .i64 600))⟩,
      ⟨(some 22), none, .pick (.t 18) (.c (.bool true)) (.t 21)⟩])
    (.cond (.t 22)
     (.seq
      (.reg [⟨(some 23), none, .call 15 []⟩,
        ⟨(some 4), none, .take 23⟩])
      .ret)
     .skip))
   (.seq
    (.reg [⟨(some 25), none, .mv (.t 0)⟩,
      ⟨(some 26), none, .call 22 [(.t 25)]⟩,
      ⟨(some 24), none, .take 26⟩,
      ⟨(some 27), none, .extS 24 0⟩,
      ⟨(some 28), none, .ext 24 1⟩,
      ⟨(some 5), none, .alloc [(.int .u8 0), (.int .i64 0), (.int .i64 0), (.str (ByteArray.mk #[])), (.int .i64 0), (.bool false), (.int .i64 0), (.int .i64 0), (.int .i64 0)]⟩,
      ⟨none, none, .store 9 (.t 5) (.t 27)⟩,
      ⟨(some 6), none, .take 28⟩])
    (.seq
     (.reg [⟨(some 30), none, .mv (.t 0)⟩,
       ⟨(some 31), none, .call 23 [(.t 30)]⟩,
       ⟨(some 29), none, .take 31⟩,
       ⟨(some 32), none, .extS 29 0⟩,
       ⟨(some 33), none, .ext 29 1⟩,
       ⟨(some 7), none, .alloc [(.int .u8 0), (.int .i64 0), (.int .i64 0), (.str (ByteArray.mk #[])), (.int .i64 0), (.bool false), (.int .i64 0), (.int .i64 0), (.int .i64 0)]⟩,
       ⟨none, none, .store 9 (.t 7) (.t 32)⟩,
       ⟨(some 8), none, .take 33⟩])
     (.seq
      (.reg [⟨(some 35), none, .mv (.t 1)⟩,
        ⟨(some 36), none, .call 24 [(.t 35)]⟩,
        ⟨(some 34), none, .take 36⟩,
        ⟨(some 37), none, .ext 34 0⟩,
        ⟨(some 38), none, .ext 34 1⟩,
        ⟨(some 39), none, .ext 34 2⟩,
        ⟨(some 9), none, .take 37⟩,
        ⟨(some 10), none, .take 38⟩,
        ⟨(some 11), none, .take 39⟩])
      (.seq
       (.reg [⟨(some 41), none, .mv (.t 1)⟩,
         ⟨(some 42), none, .call 25 [(.t 41)]⟩,
         ⟨(some 40), none, .take 42⟩,
         ⟨(some 43), none, .ext 40 0⟩,
         ⟨(some 44), none, .ext 40 1⟩,
         ⟨(some 45), none, .ext 40 2⟩,
         ⟨(some 12), none, .take 43⟩,
         ⟨(some 13), none, .take 44⟩,
         ⟨(some 14), none, .take 45⟩])
       (.seq
        (.reg [⟨(some 46), none, .load (some 9) (.t 5)⟩,
          ⟨(some 47), none, .load (some 9) (.t 7)⟩,
          ⟨(some 48), none, .eqs [1, 1, 1, 2, 1, 0, 1, 1, 1] false (.t 46) (.t 47)⟩,
          ⟨(some 49), none, .take 48⟩,
          ⟨(some 50), (some (49, true)), .mv (.t 6)⟩,
          ⟨(some 51), (some (49, true)), .mv (.t 8)⟩,
          ⟨(some 52), (some (49, true)), .bin .eql (.t 50) (.t 51)⟩,
          ⟨(some 53), none, .pick (.t 49) (.t 52) (.c (.bool false))⟩,
          ⟨(some 54), none, .take 53⟩,
          ⟨(some 55), (some (54, true)), .mv (.t 9)⟩,
          ⟨(some 56), (some (54, true)), .mv (.t 12)⟩,
          ⟨(some 57), (some (54, true)), .bin .eql (.t 55) (.t 56)⟩,
          ⟨(some 58), none, .pick (.t 54) (.t 57) (.c (.bool false))⟩,
          ⟨(some 59), none, .take 58⟩,
          ⟨(some 60), (some (59, true)), .mv (.t 10)⟩,
          ⟨(some 61), (some (59, true)), .mv (.t 13)⟩,
          ⟨(some 62), (some (59, true)), .call 26 [(.t 60), (.t 61)]⟩,
          ⟨(some 63), none, .pick (.t 59) (.t 62) (.c (.bool false))⟩,
          ⟨(some 64), none, .take 63⟩,
          ⟨(some 65), (some (64, true)), .mv (.t 11)⟩,
          ⟨(some 66), (some (64, true)), .mv (.t 14)⟩,
          ⟨(some 67), (some (64, true)), .bin .eql (.t 65) (.t 66)⟩,
          ⟨(some 68), none, .pick (.t 64) (.t 67) (.c (.bool false))⟩,
          ⟨(some 69), none, .take 68⟩,
          ⟨(some 70), (some (69, true)), .call 15 []⟩,
          ⟨(some 71), none, .pick (.t 69) (.t 70) (.c (.bool false))⟩,
          ⟨(some 4), none, .take 71⟩])
        .ret)))))))
def ar4 : List AR := [.t 4]
theorem comp4 : Try.f4.body.bind (comp Try.prog 72) = some ac4 := by kernel_rfl
theorem cres4 : compRes Try.prog Try.f4.results.toList = some ar4 := by kernel_rfl
/-- bilander/bilanderlaw08.MetaAll -/
def ac5 : AC :=
 (.seq
  (.reg [⟨(some 4), none, .mv (.c (.bool false))⟩])
  (.seq
   (.seq
    (.reg [⟨(some 9), none, .mv (.t 1)⟩,
      ⟨(some 10), none, .call 14 [(.t 9), (.c (.int .i64 60))]⟩,
      ⟨(some 11), none, .una .not (.t 10)⟩])
    (.cond (.t 11)
     (.seq
      (.reg [⟨(some 12), none, .call 15 []⟩,
        ⟨(some 4), none, .take 12⟩])
      .ret)
     .skip))
   (.seq
    (.reg [⟨(some 14), none, .mv (.t 0)⟩,
      ⟨(some 15), none, .mv (.t 1)⟩,
      ⟨(some 16), none, .call 27 [(.t 14), (.t 15)]⟩,
      ⟨(some 13), none, .take 16⟩,
      ⟨(some 17), none, .ext 13 0⟩,
      ⟨(some 18), none, .ext 13 1⟩,
      ⟨(some 5), none, .take 17⟩,
      ⟨(some 6), none, .take 18⟩])
    (.seq
     (.reg [⟨(some 20), none, .mv (.t 0)⟩,
       ⟨(some 21), none, .mv (.t 1)⟩,
       ⟨(some 22), none, .call 28 [(.t 20), (.t 21)]⟩,
       ⟨(some 19), none, .take 22⟩,
       ⟨(some 23), none, .ext 19 0⟩,
       ⟨(some 24), none, .ext 19 1⟩,
       ⟨(some 7), none, .take 23⟩,
       ⟨(some 8), none, .take 24⟩])
     (.seq
      (.reg [⟨(some 25), none, .mv (.t 5)⟩,
        ⟨(some 26), none, .b2s (.t 25)⟩,
        ⟨(some 27), none, .mv (.t 7)⟩,
        ⟨(some 28), none, .b2s (.t 27)⟩,
        ⟨(some 29), none, .bin .eql (.t 26) (.t 28)⟩,
        ⟨(some 30), none, .take 29⟩,
        ⟨(some 31), (some (30, true)), .mv (.t 6)⟩,
        ⟨(some 32), (some (30, true)), .mv (.t 8)⟩,
        ⟨(some 33), (some (30, true)), .bin .eql (.t 31) (.t 32)⟩,
        ⟨(some 34), none, .pick (.t 30) (.t 33) (.c (.bool false))⟩,
        ⟨(some 35), none, .take 34⟩,
        ⟨(some 36), (some (35, true)), .call 15 []⟩,
        ⟨(some 37), none, .pick (.t 35) (.t 36) (.c (.bool false))⟩,
        ⟨(some 4), none, .take 37⟩])
      .ret)))))
def ar5 : List AR := [.t 4]
theorem comp5 : Try.f5.body.bind (comp Try.prog 38) = some ac5 := by kernel_rfl
theorem cres5 : compRes Try.prog Try.f5.results.toList = some ar5 := by kernel_rfl
/-- bilander/bilanderlaw08.MetaBack -/
def ac6 : AC :=
 (.seq
  (.reg [⟨(some 4), none, .mv (.c (.bool false))⟩])
  (.seq
   (.seq
    (.reg [⟨(some 25), none, .mv (.t 1)⟩,
      ⟨(some 26), none, .call 14 [(.t 25), (.c (.int .i64 60))]⟩,
      ⟨(some 27), none, .una .not (.t 26)⟩])
    (.cond (.t 27)
     (.seq
      (.reg [⟨(some 28), none, .call 15 []⟩,
        ⟨(some 4), none, .take 28⟩])
      .ret)
     .skip))
   (.seq
    (.seq
     (.reg [⟨(some 5), none, .mv (.c (.int .i64 0))⟩])
     (.block 0
      (.loop
       (.seq
        (.seq
         (.reg [⟨(some 29), none, .mv (.t 5)⟩,
           ⟨(some 30), none, .mv (.t 1)⟩,
           ⟨(some 31), none, .len false (.t 30)⟩,
           ⟨(some 32), none, .bin .lss (.t 29) (.t 31)⟩])
         (.cond (.t 32)
          .skip
          (.exit 0)))
        (.seq
         (.block 1
          (.seq
           (.reg [⟨(some 36), none, .mv (.t 1)⟩,
             ⟨(some 37), none, .mv (.t 5)⟩,
             ⟨(some 38), none, .iaddr 9 (.t 36) (.t 37)⟩,
             ⟨(some 39), none, .load (some 9) (.t 38)⟩,
             ⟨(some 40), none, .call 16 [(.t 39)]⟩,
             ⟨(some 35), none, .take 40⟩,
             ⟨(some 41), none, .ext 35 0⟩,
             ⟨(some 42), none, .ext 35 1⟩,
             ⟨(some 6), none, .take 41⟩,
             ⟨(some 7), none, .take 42⟩])
           (.seq
            (.seq
             (.reg [⟨(some 43), none, .mv (.t 7)⟩,
               ⟨(some 44), none, .bin .neq (.t 43) (.c (.int .i64 0))⟩])
             (.cond (.t 44)
              (.exit 1)
              .skip))
            (.seq
             (.seq
              (.reg [⟨(some 45), none, .mv (.t 6)⟩,
                ⟨(some 46), none, .len false (.t 45)⟩,
                ⟨(some 47), none, .bin .eql (.t 46) (.c (.int .i64 0))⟩])
              (.cond (.t 47)
               (.seq
                (.reg [⟨(some 4), none, .mv (.c (.bool false))⟩])
                .ret)
               .skip))
             (.seq
              (.reg [⟨(some 49), none, .mv (.t 6)⟩,
                ⟨(some 50), none, .call 22 [(.t 49)]⟩,
                ⟨(some 48), none, .take 50⟩,
                ⟨(some 51), none, .extS 48 0⟩,
                ⟨(some 52), none, .ext 48 1⟩,
                ⟨(some 8), none, .alloc [(.int .u8 0), (.int .i64 0), (.int .i64 0), (.str (ByteArray.mk #[])), (.int .i64 0), (.bool false), (.int .i64 0), (.int .i64 0), (.int .i64 0)]⟩,
                ⟨none, none, .store 9 (.t 8) (.t 51)⟩,
                ⟨(some 9), none, .take 52⟩])
              (.seq
               (.reg [⟨(some 54), none, .bsl 1 0 [(.int .u8 0)] []⟩,
                 ⟨(some 55), none, .mv (.t 6)⟩,
                 ⟨(some 56), none, .app 1 1 54 (.t 55)⟩,
                 ⟨(some 57), none, .bsl 1 1 [(.int .u8 0)] [(0, (.c (.int .u8 0)))]⟩,
                 ⟨(some 58), none, .app 1 1 56 (.t 57)⟩,
                 ⟨(some 59), none, .call 22 [(.t 58)]⟩,
                 ⟨(some 53), none, .take 59⟩,
                 ⟨(some 60), none, .extS 53 0⟩,
                 ⟨(some 61), none, .ext 53 1⟩,
                 ⟨(some 10), none, .alloc [(.int .u8 0), (.int .i64 0), (.int .i64 0), (.str (ByteArray.mk #[])), (.int .i64 0), (.bool false), (.int .i64 0), (.int .i64 0), (.int .i64 0)]⟩,
                 ⟨none, none, .store 9 (.t 10) (.t 60)⟩,
                 ⟨(some 11), none, .take 61⟩])
               (.seq
                (.reg [⟨(some 63), none, .mv (.t 6)⟩,
                  ⟨(some 64), none, .mv (.t 6)⟩,
                  ⟨(some 65), none, .len false (.t 64)⟩,
                  ⟨(some 66), none, .bin .sub (.t 65) (.c (.int .i64 1))⟩,
                  ⟨(some 67), none, .slc false 1 (.t 63) none (some (.t 66))⟩,
                  ⟨(some 68), none, .call 22 [(.t 67)]⟩,
                  ⟨(some 62), none, .take 68⟩,
                  ⟨(some 69), none, .extS 62 0⟩,
                  ⟨(some 70), none, .ext 62 1⟩,
                  ⟨(some 12), none, .alloc [(.int .u8 0), (.int .i64 0), (.int .i64 0), (.str (ByteArray.mk #[])), (.int .i64 0), (.bool false), (.int .i64 0), (.int .i64 0), (.int .i64 0)]⟩,
                  ⟨none, none, .store 9 (.t 12) (.t 69)⟩,
                  ⟨(some 13), none, .take 70⟩])
                (.seq
                 (.dreg [] [⟨(some 71), none, .mv (.t 9)⟩,
                   ⟨(some 72), none, .bin .neq (.t 71) (.c (.int .i64 0))⟩,
                   ⟨(some 73), none, .mv (.t 72)⟩,
                   ⟨(some 74), (some (73, false)), .load (some 9) (.t 8)⟩,
                   ⟨(some 75), (some (73, false)), .mv (.t 1)⟩,
                   ⟨(some 76), (some (73, false)), .mv (.t 5)⟩,
                   ⟨(some 77), (some (73, false)), .iaddr 9 (.t 75) (.t 76)⟩,
                   ⟨(some 78), (some (73, false)), .load (some 9) (.t 77)⟩,
                   ⟨(some 79), (some (73, false)), .eqs [1, 1, 1, 2, 1, 0, 1, 1, 1] true (.t 74) (.t 78)⟩,
                   ⟨(some 80), none, .pick (.t 73) (.c (.bool true)) (.t 79)⟩,
                   ⟨(some 81), none, .mv (.t 80)⟩,
                   ⟨(some 82), (some (81, false)), .mv (.t 11)⟩,
                   ⟨(some 83), (some (81, false)), .bin .neq (.t 82) (.c (.int .i64 4))⟩,
                   ⟨(some 84), none, .pick (.t 81) (.c (.bool true)) (.t 83)⟩,
                   ⟨(some 85), none, .mv (.t 84)⟩,
                   ⟨(some 86), (some (85, false)), .mv (.t 13)⟩,
                   ⟨(some 87), (some (85, false)), .bin .neq (.t 86) (.c (.int .i64 4))⟩,
                   ⟨(some 88), none, .pick (.t 85) (.c (.bool true)) (.t 87)⟩])
                 (.cond (.t 88)
                  (.seq
                   (.reg [⟨(some 4), none, .mv (.c (.bool false))⟩])
                   .ret)
                  .skip)))))))))
         (.reg [⟨(some 33), none, .take 5⟩,
           ⟨(some 34), none, .bin .add (.t 33) (.c (.int .i64 1))⟩,
           ⟨(some 5), none, .take 34⟩]))))))
    (.seq
     (.reg [⟨(some 90), none, .mv (.t 0)⟩,
       ⟨(some 91), none, .mv (.t 1)⟩,
       ⟨(some 92), none, .call 27 [(.t 90), (.t 91)]⟩,
       ⟨(some 89), none, .take 92⟩,
       ⟨(some 93), none, .ext 89 0⟩,
       ⟨(some 94), none, .ext 89 1⟩,
       ⟨(some 14), none, .take 93⟩,
       ⟨(some 15), none, .take 94⟩])
     (.seq
      (.seq
       (.reg [⟨(some 95), none, .mv (.t 15)⟩,
         ⟨(some 96), none, .bin .neq (.t 95) (.c (.int .i64 0))⟩])
       (.cond (.t 96)
        (.seq
         (.reg [⟨(some 97), none, .mv (.t 14)⟩,
           ⟨(some 98), none, .len false (.t 97)⟩,
           ⟨(some 99), none, .bin .eql (.t 98) (.c (.int .i64 0))⟩,
           ⟨(some 100), none, .take 99⟩,
           ⟨(some 101), (some (100, true)), .call 15 []⟩,
           ⟨(some 102), none, .pick (.t 100) (.t 101) (.c (.bool false))⟩,
           ⟨(some 4), none, .take 102⟩])
         .ret)
        .skip))
      (.seq
       (.seq
        (.reg [⟨(some 103), none, .mv (.t 14)⟩,
          ⟨(some 104), none, .len false (.t 103)⟩,
          ⟨(some 105), none, .bin .eql (.t 104) (.c (.int .i64 0))⟩])
        (.cond (.t 105)
         (.seq
          (.reg [⟨(some 4), none, .mv (.c (.bool false))⟩])
          .ret)
         .skip))
       (.seq
        (.reg [⟨(some 107), none, .mv (.t 14)⟩,
          ⟨(some 108), none, .call 24 [(.t 107)]⟩,
          ⟨(some 106), none, .take 108⟩,
          ⟨(some 109), none, .ext 106 0⟩,
          ⟨(some 110), none, .ext 106 1⟩,
          ⟨(some 111), none, .ext 106 2⟩,
          ⟨(some 16), none, .take 109⟩,
          ⟨(some 17), none, .take 110⟩,
          ⟨(some 18), none, .take 111⟩])
        (.seq
         (.reg [⟨(some 113), none, .bsl 1 0 [(.int .u8 0)] []⟩,
           ⟨(some 114), none, .mv (.t 14)⟩,
           ⟨(some 115), none, .app 1 1 113 (.t 114)⟩,
           ⟨(some 116), none, .bsl 1 1 [(.int .u8 0)] [(0, (.c (.int .u8 0)))]⟩,
           ⟨(some 117), none, .app 1 1 115 (.t 116)⟩,
           ⟨(some 118), none, .call 24 [(.t 117)]⟩,
           ⟨(some 112), none, .take 118⟩,
           ⟨(some 119), none, .ext 112 0⟩,
           ⟨(some 120), none, .ext 112 1⟩,
           ⟨(some 121), none, .ext 112 2⟩,
           ⟨(some 19), none, .take 119⟩,
           ⟨(some 20), none, .take 120⟩,
           ⟨(some 21), none, .take 121⟩])
         (.seq
          (.reg [⟨(some 123), none, .mv (.t 14)⟩,
            ⟨(some 124), none, .mv (.t 14)⟩,
            ⟨(some 125), none, .len false (.t 124)⟩,
            ⟨(some 126), none, .bin .sub (.t 125) (.c (.int .i64 1))⟩,
            ⟨(some 127), none, .slc false 1 (.t 123) none (some (.t 126))⟩,
            ⟨(some 128), none, .call 24 [(.t 127)]⟩,
            ⟨(some 122), none, .take 128⟩,
            ⟨(some 129), none, .ext 122 0⟩,
            ⟨(some 130), none, .ext 122 1⟩,
            ⟨(some 131), none, .ext 122 2⟩,
            ⟨(some 22), none, .take 129⟩,
            ⟨(some 23), none, .take 130⟩,
            ⟨(some 24), none, .take 131⟩])
          (.seq
           (.reg [⟨(some 132), none, .mv (.t 18)⟩,
             ⟨(some 133), none, .bin .eql (.t 132) (.c (.int .i64 0))⟩,
             ⟨(some 134), none, .take 133⟩,
             ⟨(some 135), (some (134, true)), .mv (.t 16)⟩,
             ⟨(some 136), (some (134, true)), .mv (.t 0)⟩,
             ⟨(some 137), (some (134, true)), .bin .eql (.t 135) (.t 136)⟩,
             ⟨(some 138), none, .pick (.t 134) (.t 137) (.c (.bool false))⟩,
             ⟨(some 139), none, .take 138⟩,
             ⟨(some 140), (some (139, true)), .mv (.t 17)⟩,
             ⟨(some 141), (some (139, true)), .mv (.t 1)⟩,
             ⟨(some 142), (some (139, true)), .call 26 [(.t 140), (.t 141)]⟩,
             ⟨(some 143), none, .pick (.t 139) (.t 142) (.c (.bool false))⟩,
             ⟨(some 144), none, .take 143⟩,
             ⟨(some 145), (some (144, true)), .mv (.t 21)⟩,
             ⟨(some 146), (some (144, true)), .bin .eql (.t 145) (.c (.int .i64 4))⟩,
             ⟨(some 147), none, .pick (.t 144) (.t 146) (.c (.bool false))⟩,
             ⟨(some 148), none, .take 147⟩,
             ⟨(some 149), (some (148, true)), .mv (.t 24)⟩,
             ⟨(some 150), (some (148, true)), .bin .eql (.t 149) (.c (.int .i64 4))⟩,
             ⟨(some 151), none, .pick (.t 148) (.t 150) (.c (.bool false))⟩,
             ⟨(some 152), none, .take 151⟩,
             ⟨(some 153), (some (152, true)), .call 15 []⟩,
             ⟨(some 154), none, .pick (.t 152) (.t 153) (.c (.bool false))⟩,
             ⟨(some 4), none, .take 154⟩])
           .ret))))))))))
def ar6 : List AR := [.t 4]
theorem comp6 : Try.f6.body.bind (comp Try.prog 155) = some ac6 := by kernel_rfl
theorem cres6 : compRes Try.prog Try.f6.results.toList = some ar6 := by kernel_rfl
/-- bilander/bilanderlaw08.MetaApart -/
def ac7 : AC :=
 (.seq
  (.reg [⟨(some 2), none, .box 9 (.t 0)⟩,
    ⟨(some 3), none, .box 9 (.t 1)⟩,
    ⟨(some 4), none, .mv (.c (.bool false))⟩])
  (.seq
   (.seq
    (.reg [⟨(some 9), none, .load (some 9) (.t 2)⟩,
      ⟨(some 10), none, .load (some 9) (.t 3)⟩,
      ⟨(some 11), none, .bsl 9 2 [(.int .u8 0), (.int .i64 0), (.int .i64 0), (.str (ByteArray.mk #[])), (.int .i64 0), (.bool false), (.int .i64 0), (.int .i64 0), (.int .i64 0)] [(0, (.t 9)), (1, (.t 10))]⟩,
      ⟨(some 12), none, .call 14 [(.t 11), (.c (.int .i64 2))]⟩,
      ⟨(some 13), none, .una .not (.t 12)⟩,
      ⟨(some 14), none, .take 13⟩,
      ⟨(some 15), (some (14, false)), .load (some 9) (.t 2)⟩,
      ⟨(some 16), (some (14, false)), .call 18 [(.t 15)]⟩,
      ⟨(some 17), (some (14, false)), .bin .neq (.t 16) (.c (.int .i64 0))⟩,
      ⟨(some 18), none, .pick (.t 14) (.c (.bool true)) (.t 17)⟩,
      ⟨(some 19), none, .take 18⟩,
      ⟨(some 20), (some (19, false)), .load (some 9) (.t 3)⟩,
      ⟨(some 21), (some (19, false)), .call 18 [(.t 20)]⟩,
      ⟨(some 22), (some (19, false)), .bin .neq (.t 21) (.c (.int .i64 0))⟩,
      ⟨(some 23), none, .pick (.t 19) (.c (.bool true)) (.t 22)⟩])
    (.cond (.t 23)
     (.seq
      (.reg [⟨(some 24), none, .call 15 []⟩,
        ⟨(some 4), none, .take 24⟩])
      .ret)
     .skip))
   (.seq
    (.reg [⟨(some 26), none, .load (some 9) (.t 2)⟩,
      ⟨(some 27), none, .call 16 [(.t 26)]⟩,
      ⟨(some 25), none, .take 27⟩,
      ⟨(some 28), none, .ext 25 0⟩,
      ⟨(some 29), none, .ext 25 1⟩,
      ⟨(some 5), none, .take 28⟩,
      ⟨(some 6), none, .take 29⟩])
    (.seq
     (.reg [⟨(some 31), none, .load (some 9) (.t 3)⟩,
       ⟨(some 32), none, .call 16 [(.t 31)]⟩,
       ⟨(some 30), none, .take 32⟩,
       ⟨(some 33), none, .ext 30 0⟩,
       ⟨(some 34), none, .ext 30 1⟩,
       ⟨(some 7), none, .take 33⟩,
       ⟨(some 8), none, .take 34⟩])
     (.seq
      (.dreg [] [⟨(some 35), none, .mv (.t 6)⟩,
        ⟨(some 36), none, .bin .eql (.t 35) (.c (.int .i64 0))⟩,
        ⟨(some 37), none, .mv (.t 36)⟩,
        ⟨(some 38), (some (37, true)), .mv (.t 8)⟩,
        ⟨(some 39), (some (37, true)), .bin .eql (.t 38) (.c (.int .i64 0))⟩,
        ⟨(some 40), none, .pick (.t 37) (.t 39) (.c (.bool false))⟩,
        ⟨(some 41), none, .mv (.t 40)⟩,
        ⟨(some 42), (some (41, true)), .mv (.t 5)⟩,
        ⟨(some 43), (some (41, true)), .b2s (.t 42)⟩,
        ⟨(some 44), (some (41, true)), .mv (.t 7)⟩,
        ⟨(some 45), (some (41, true)), .b2s (.t 44)⟩,
        ⟨(some 46), (some (41, true)), .bin .eql (.t 43) (.t 45)⟩,
        ⟨(some 47), (some (41, true)), .load (some 9) (.t 2)⟩,
        ⟨(some 48), (some (41, true)), .load (some 9) (.t 3)⟩,
        ⟨(some 49), (some (41, true)), .eqs [1, 1, 1, 2, 1, 0, 1, 1, 1] false (.t 47) (.t 48)⟩,
        ⟨(some 50), (some (41, true)), .beq false (.t 46) (.t 49)⟩,
        ⟨(some 51), none, .pick (.t 41) (.t 50) (.c (.bool false))⟩,
        ⟨(some 52), none, .mv (.t 51)⟩,
        ⟨(some 53), (some (52, true)), .call 15 []⟩,
        ⟨(some 54), none, .pick (.t 52) (.t 53) (.c (.bool false))⟩,
        ⟨(some 4), none, .take 54⟩])
      .ret)))))
def ar7 : List AR := [.t 4]
theorem comp7 : Try.f7.body.bind (comp Try.prog 55) = some ac7 := by kernel_rfl
theorem cres7 : compRes Try.prog Try.f7.results.toList = some ar7 := by kernel_rfl
/-- bilander/bilanderlaw08.awake -/
def ac15 : AC :=
 (.seq
  (.reg [⟨(some 0), none, .mv (.c (.bool false))⟩])
  (.seq
   (.reg [⟨(some 11), none, .build [(.int .u8 0), (.int .i64 0), (.int .i64 0), (.str (ByteArray.mk #[])), (.int .i64 0), (.bool false), (.int .i64 0), (.int .i64 0), (.int .i64 0)] [(0, 1, (.c (.int .u8 2))), (1, 1, (.c (.int .i64 1))), (6, 1, (.c (.int .i64 5))), (7, 1, (.c (.int .i64 64)))]⟩,
     ⟨(some 1), none, .alloc [(.int .u8 0), (.int .i64 0), (.int .i64 0), (.str (ByteArray.mk #[])), (.int .i64 0), (.bool false), (.int .i64 0), (.int .i64 0), (.int .i64 0)]⟩,
     ⟨none, none, .store 9 (.t 1) (.t 11)⟩])
   (.seq
    (.reg [⟨(some 13), none, .load (some 9) (.t 1)⟩,
      ⟨(some 14), none, .call 16 [(.t 13)]⟩,
      ⟨(some 12), none, .take 14⟩,
      ⟨(some 15), none, .ext 12 0⟩,
      ⟨(some 16), none, .ext 12 1⟩,
      ⟨(some 2), none, .take 15⟩,
      ⟨(some 3), none, .take 16⟩])
    (.seq
     (.reg [⟨(some 18), none, .mv (.t 2)⟩,
       ⟨(some 19), none, .call 22 [(.t 18)]⟩,
       ⟨(some 17), none, .take 19⟩,
       ⟨(some 20), none, .extS 17 0⟩,
       ⟨(some 21), none, .ext 17 1⟩,
       ⟨(some 4), none, .alloc [(.int .u8 0), (.int .i64 0), (.int .i64 0), (.str (ByteArray.mk #[])), (.int .i64 0), (.bool false), (.int .i64 0), (.int .i64 0), (.int .i64 0)]⟩,
       ⟨none, none, .store 9 (.t 4) (.t 20)⟩,
       ⟨(some 5), none, .take 21⟩])
     (.seq
      (.reg [⟨(some 23), none, .load (some 9) (.t 1)⟩,
        ⟨(some 24), none, .bsl 9 1 [(.int .u8 0), (.int .i64 0), (.int .i64 0), (.str (ByteArray.mk #[])), (.int .i64 0), (.bool false), (.int .i64 0), (.int .i64 0), (.int .i64 0)] [(0, (.t 23))]⟩,
        ⟨(some 25), none, .call 27 [(.c (.int .i64 3)), (.t 24)]⟩,
        ⟨(some 22), none, .take 25⟩,
        ⟨(some 26), none, .ext 22 0⟩,
        ⟨(some 27), none, .ext 22 1⟩,
        ⟨(some 6), none, .take 26⟩,
        ⟨(some 7), none, .take 27⟩])
      (.seq
       (.reg [⟨(some 29), none, .mv (.t 6)⟩,
         ⟨(some 30), none, .call 24 [(.t 29)]⟩,
         ⟨(some 28), none, .take 30⟩,
         ⟨(some 31), none, .ext 28 0⟩,
         ⟨(some 32), none, .ext 28 1⟩,
         ⟨(some 33), none, .ext 28 2⟩,
         ⟨(some 8), none, .take 31⟩,
         ⟨(some 9), none, .take 32⟩,
         ⟨(some 10), none, .take 33⟩])
       (.seq
        (.dreg [] [⟨(some 34), none, .mv (.t 3)⟩,
          ⟨(some 35), none, .bin .eql (.t 34) (.c (.int .i64 0))⟩,
          ⟨(some 36), none, .mv (.t 35)⟩,
          ⟨(some 37), (some (36, true)), .mv (.t 5)⟩,
          ⟨(some 38), (some (36, true)), .bin .eql (.t 37) (.c (.int .i64 0))⟩,
          ⟨(some 39), none, .pick (.t 36) (.t 38) (.c (.bool false))⟩,
          ⟨(some 40), none, .mv (.t 39)⟩,
          ⟨(some 41), (some (40, true)), .mv (.t 7)⟩,
          ⟨(some 42), (some (40, true)), .bin .eql (.t 41) (.c (.int .i64 0))⟩,
          ⟨(some 43), none, .pick (.t 40) (.t 42) (.c (.bool false))⟩,
          ⟨(some 44), none, .mv (.t 43)⟩,
          ⟨(some 45), (some (44, true)), .mv (.t 10)⟩,
          ⟨(some 46), (some (44, true)), .bin .eql (.t 45) (.c (.int .i64 0))⟩,
          ⟨(some 47), none, .pick (.t 44) (.t 46) (.c (.bool false))⟩,
          ⟨(some 48), none, .mv (.t 47)⟩,
          ⟨(some 49), (some (48, true)), .mv (.t 2)⟩,
          ⟨(some 50), (some (48, true)), .b2s (.t 49)⟩,
          ⟨(some 51), (some (48, true)), .bin .eql (.t 50) (.c (.str (ByteArray.mk #[2, 2, 0, 10, 128, 1])))⟩,
          ⟨(some 52), none, .pick (.t 48) (.t 51) (.c (.bool false))⟩,
          ⟨(some 53), none, .mv (.t 52)⟩,
          ⟨(some 54), (some (53, true)), .load (some 9) (.t 4)⟩,
          ⟨(some 55), (some (53, true)), .load (some 9) (.t 1)⟩,
          ⟨(some 56), (some (53, true)), .eqs [1, 1, 1, 2, 1, 0, 1, 1, 1] false (.t 54) (.t 55)⟩,
          ⟨(some 57), none, .pick (.t 53) (.t 56) (.c (.bool false))⟩,
          ⟨(some 58), none, .mv (.t 57)⟩,
          ⟨(some 59), (some (58, true)), .mv (.t 8)⟩,
          ⟨(some 60), (some (58, true)), .bin .eql (.t 59) (.c (.int .i64 3))⟩,
          ⟨(some 61), none, .pick (.t 58) (.t 60) (.c (.bool false))⟩,
          ⟨(some 62), none, .mv (.t 61)⟩,
          ⟨(some 63), (some (62, true)), .mv (.t 9)⟩,
          ⟨(some 64), (some (62, true)), .len false (.t 63)⟩,
          ⟨(some 65), (some (62, true)), .bin .eql (.t 64) (.c (.int .i64 1))⟩,
          ⟨(some 66), none, .pick (.t 62) (.t 65) (.c (.bool false))⟩,
          ⟨(some 67), none, .mv (.t 66)⟩,
          ⟨(some 68), (some (67, true)), .mv (.t 9)⟩,
          ⟨(some 69), (some (67, true)), .iaddr 9 (.t 68) (.c (.int .i64 0))⟩,
          ⟨(some 70), (some (67, true)), .load (some 9) (.t 69)⟩,
          ⟨(some 71), (some (67, true)), .load (some 9) (.t 1)⟩,
          ⟨(some 72), (some (67, true)), .eqs [1, 1, 1, 2, 1, 0, 1, 1, 1] false (.t 70) (.t 71)⟩,
          ⟨(some 73), none, .pick (.t 67) (.t 72) (.c (.bool false))⟩,
          ⟨(some 74), none, .mv (.t 73)⟩,
          ⟨(some 75), (some (74, true)), .load (some 9) (.t 4)⟩,
          ⟨(some 76), (some (74, true)), .load (some 9) (.t 1)⟩,
          ⟨(some 77), (some (74, true)), .call 19 [(.t 75), (.t 76)]⟩,
          ⟨(some 78), none, .pick (.t 74) (.t 77) (.c (.bool false))⟩,
          ⟨(some 79), none, .mv (.t 78)⟩,
          ⟨(some 80), (some (79, true)), .load (some 9) (.t 4)⟩,
          ⟨(some 81), (some (79, true)), .build [(.int .u8 0), (.int .i64 0), (.int .i64 0), (.str (ByteArray.mk #[])), (.int .i64 0), (.bool false), (.int .i64 0), (.int .i64 0), (.int .i64 0)] []⟩,
          ⟨(some 82), (some (79, true)), .call 19 [(.t 80), (.t 81)]⟩,
          ⟨(some 83), (some (79, true)), .una .not (.t 82)⟩,
          ⟨(some 84), none, .pick (.t 79) (.t 83) (.c (.bool false))⟩,
          ⟨(some 85), none, .mv (.t 84)⟩,
          ⟨(some 86), (some (85, true)), .call 20 [(.c (.str (ByteArray.mk #[97, 46, 98])))]⟩,
          ⟨(some 87), none, .pick (.t 85) (.t 86) (.c (.bool false))⟩,
          ⟨(some 88), none, .mv (.t 87)⟩,
          ⟨(some 89), (some (88, true)), .call 20 [(.c (.str (ByteArray.mk #[97, 32, 98])))]⟩,
          ⟨(some 90), (some (88, true)), .una .not (.t 89)⟩,
          ⟨(some 91), none, .pick (.t 88) (.t 90) (.c (.bool false))⟩,
          ⟨(some 92), none, .mv (.t 91)⟩,
          ⟨(some 93), none, .pick (.t 92) (.c (.bool true)) (.c (.bool false))⟩,
          ⟨(some 94), none, .mv (.t 93)⟩,
          ⟨(some 95), none, .pick (.t 94) (.c (.bool true)) (.c (.bool false))⟩,
          ⟨(some 96), none, .mv (.t 95)⟩,
          ⟨(some 97), none, .pick (.t 96) (.c (.bool true)) (.c (.bool false))⟩,
          ⟨(some 98), none, .mv (.t 97)⟩,
          ⟨(some 99), none, .pick (.t 98) (.c (.bool true)) (.c (.bool false))⟩,
          ⟨(some 100), none, .mv (.t 99)⟩,
          ⟨(some 101), none, .pick (.t 100) (.c (.bool true)) (.c (.bool false))⟩,
          ⟨(some 102), none, .mv (.t 101)⟩,
          ⟨(some 103), none, .pick (.t 102) (.c (.bool true)) (.c (.bool false))⟩,
          ⟨(some 104), none, .mv (.t 103)⟩,
          ⟨(some 105), none, .pick (.t 104) (.c (.bool true)) (.c (.bool false))⟩,
          ⟨(some 106), none, .mv (.t 105)⟩,
          ⟨(some 107), none, .pick (.t 106) (.c (.bool true)) (.c (.bool false))⟩,
          ⟨(some 108), none, .mv (.t 107)⟩,
          ⟨(some 109), none, .pick (.t 108) (.c (.bool true)) (.c (.bool false))⟩,
          ⟨(some 0), none, .take 109⟩])
        .ret)))))))
def ar15 : List AR := [.t 0]
theorem comp15 : Try.f15.body.bind (comp Try.prog 110) = some ac15 := by kernel_rfl
theorem cres15 : compRes Try.prog Try.f15.results.toList = some ar15 := by kernel_rfl
end Go.Proofs.Ytkiimlmlfhmkiaa
