import Derived.Test.YtmfkliabjfngmaaAvL3
import Derived.Test.YtmfkliabjfngmaaProg
import Derived.KernelRfl

set_option linter.unusedVariables false
set_option linter.unusedSimpArgs false
set_option maxRecDepth 100000
namespace Go.Proofs.Ytmfkliabjfngmaa
open Go.Av
/-- bilander/bilanderlaw19.AssignGives -/
def ac3 : AC :=
 (.seq
  (.reg [⟨(some 6), none, .mv (.c (.bool false))⟩])
  (.seq
   (.seq
    (.reg [⟨(some 10), none, .mv (.t 0)⟩,
      ⟨(some 11), none, .call 10 [(.t 10)]⟩,
      ⟨(some 12), none, .una .not (.t 11)⟩,
      ⟨(some 13), none, .take 12⟩,
      ⟨(some 14), (some (13, false)), .mv (.t 2)⟩,
      ⟨(some 15), (some (13, false)), .len true (.t 14)⟩,
      ⟨(some 16), (some (13, false)), .bin .gtr (.t 15) (.c (.int .i64 60))⟩,
      ⟨(some 17), none, .pick (.t 13) (.c (.bool true)) (.t 16)⟩])
    (.cond (.t 17)
     (.seq
      (.reg [⟨(some 18), none, .call 11 []⟩,
        ⟨(some 6), none, .take 18⟩])
      .ret)
     .skip))
   (.seq
    (.reg [⟨(some 19), none, .mv (.t 0)⟩,
      ⟨(some 20), none, .call 12 [(.t 19)]⟩,
      ⟨(some 21), none, .mv (.t 0)⟩,
      ⟨(some 22), none, .call 13 [(.t 21)]⟩,
      ⟨(some 7), none, .take 20⟩,
      ⟨(some 8), none, .take 22⟩])
    (.seq
     (.seq
      (.reg [⟨(some 23), none, .mv (.t 7)⟩,
        ⟨(some 24), none, .len false (.t 23)⟩,
        ⟨(some 25), none, .mv (.t 8)⟩,
        ⟨(some 26), none, .len false (.t 25)⟩,
        ⟨(some 27), none, .bin .neq (.t 24) (.t 26)⟩])
      (.cond (.t 27)
       (.seq
        (.reg [⟨(some 6), none, .mv (.c (.bool false))⟩])
        .ret)
       .skip))
     (.seq
      (.seq
       (.reg [⟨(some 9), none, .mv (.c (.int .i64 0))⟩])
       (.block 0
        (.loop
         (.seq
          (.seq
           (.reg [⟨(some 28), none, .mv (.t 9)⟩,
             ⟨(some 29), none, .mv (.t 7)⟩,
             ⟨(some 30), none, .len false (.t 29)⟩,
             ⟨(some 31), none, .bin .lss (.t 28) (.t 30)⟩])
           (.cond (.t 31)
            .skip
            (.exit 0)))
          (.seq
           (.block 1
            (.seq
             (.dreg [] [⟨(some 34), none, .mv (.t 7)⟩,
               ⟨(some 35), none, .mv (.t 9)⟩,
               ⟨(some 36), none, .iaddr 1 (.t 34) (.t 35)⟩,
               ⟨(some 37), none, .load none (.t 36)⟩,
               ⟨(some 38), none, .mv (.t 8)⟩,
               ⟨(some 39), none, .mv (.t 9)⟩,
               ⟨(some 40), none, .iaddr 1 (.t 38) (.t 39)⟩,
               ⟨(some 41), none, .load none (.t 40)⟩,
               ⟨(some 42), none, .bin .neq (.t 37) (.t 41)⟩])
             (.cond (.t 42)
              (.seq
               (.reg [⟨(some 6), none, .mv (.c (.bool false))⟩])
               .ret)
              .skip)))
           (.reg [⟨(some 32), none, .take 9⟩,
             ⟨(some 33), none, .bin .add (.t 32) (.c (.int .i64 1))⟩,
             ⟨(some 9), none, .take 33⟩]))))))
      (.seq
       (.reg [⟨(some 43), none, .mv (.t 0)⟩,
         ⟨(some 44), none, .mv (.t 1)⟩,
         ⟨(some 45), none, .call 15 [(.t 43), (.t 44)]⟩,
         ⟨(some 46), none, .mv (.t 0)⟩,
         ⟨(some 47), none, .mv (.t 1)⟩,
         ⟨(some 48), none, .call 16 [(.t 46), (.t 47)]⟩,
         ⟨(some 49), none, .call 14 [(.t 45), (.t 48)]⟩,
         ⟨(some 50), none, .take 49⟩,
         ⟨(some 51), (some (50, true)), .mv (.t 0)⟩,
         ⟨(some 52), (some (50, true)), .mv (.t 1)⟩,
         ⟨(some 53), (some (50, true)), .call 17 [(.t 51), (.t 52)]⟩,
         ⟨(some 54), (some (50, true)), .mv (.t 0)⟩,
         ⟨(some 55), (some (50, true)), .mv (.t 1)⟩,
         ⟨(some 56), (some (50, true)), .call 18 [(.t 54), (.t 55)]⟩,
         ⟨(some 57), (some (50, true)), .call 14 [(.t 53), (.t 56)]⟩,
         ⟨(some 58), none, .pick (.t 50) (.t 57) (.c (.bool false))⟩,
         ⟨(some 59), none, .take 58⟩,
         ⟨(some 60), (some (59, true)), .mv (.t 0)⟩,
         ⟨(some 61), (some (59, true)), .mv (.t 1)⟩,
         ⟨(some 62), (some (59, true)), .mv (.t 2)⟩,
         ⟨(some 63), (some (59, true)), .call 20 [(.t 60), (.t 61), (.t 62)]⟩,
         ⟨(some 64), (some (59, true)), .mv (.t 0)⟩,
         ⟨(some 65), (some (59, true)), .mv (.t 1)⟩,
         ⟨(some 66), (some (59, true)), .mv (.t 2)⟩,
         ⟨(some 67), (some (59, true)), .call 21 [(.t 64), (.t 65), (.t 66)]⟩,
         ⟨(some 68), (some (59, true)), .call 19 [(.t 63), (.t 67)]⟩,
         ⟨(some 69), none, .pick (.t 59) (.t 68) (.c (.bool false))⟩,
         ⟨(some 70), none, .take 69⟩,
         ⟨(some 71), (some (70, true)), .call 11 []⟩,
         ⟨(some 72), none, .pick (.t 70) (.t 71) (.c (.bool false))⟩,
         ⟨(some 6), none, .take 72⟩])
       .ret))))))
def ar3 : List AR := [.t 6]
theorem comp3 : Try.f3.body.bind (comp Try.prog 73) = some ac3 := by kernel_rfl
theorem cres3 : compRes Try.prog Try.f3.results.toList = some ar3 := by kernel_rfl
/-- bilander/bilanderlaw19.AssignOnce -/
def ac4 : AC :=
 (.seq
  (.reg [⟨(some 4), none, .mv (.c (.bool false))⟩])
  (.seq
   (.seq
    (.reg [⟨(some 8), none, .mv (.t 0)⟩,
      ⟨(some 9), none, .call 10 [(.t 8)]⟩,
      ⟨(some 10), none, .una .not (.t 9)⟩])
    (.cond (.t 10)
     (.seq
      (.reg [⟨(some 11), none, .call 11 []⟩,
        ⟨(some 4), none, .take 11⟩])
      .ret)
     .skip))
   (.seq
    (.reg [⟨(some 12), none, .mv (.t 0)⟩,
      ⟨(some 13), none, .mv (.t 1)⟩,
      ⟨(some 14), none, .conv .i64 (.t 13)⟩,
      ⟨(some 15), none, .call 15 [(.t 12), (.t 14)]⟩,
      ⟨(some 16), none, .mv (.t 0)⟩,
      ⟨(some 17), none, .mv (.t 1)⟩,
      ⟨(some 18), none, .conv .i64 (.t 17)⟩,
      ⟨(some 19), none, .call 17 [(.t 16), (.t 18)]⟩,
      ⟨(some 5), none, .take 15⟩,
      ⟨(some 6), none, .take 19⟩])
    (.seq
     (.seq
      (.reg [⟨(some 20), none, .mv (.t 0)⟩,
        ⟨(some 21), none, .len false (.t 20)⟩,
        ⟨(some 22), none, .bin .eql (.t 21) (.c (.int .i64 0))⟩])
      (.cond (.t 22)
       (.seq
        (.reg [⟨(some 23), none, .mv (.t 5)⟩,
          ⟨(some 24), none, .len false (.t 23)⟩,
          ⟨(some 25), none, .mv (.t 6)⟩,
          ⟨(some 26), none, .len false (.t 25)⟩,
          ⟨(some 27), none, .bin .add (.t 24) (.t 26)⟩,
          ⟨(some 28), none, .bin .eql (.t 27) (.c (.int .i64 0))⟩,
          ⟨(some 29), none, .take 28⟩,
          ⟨(some 30), (some (29, true)), .call 11 []⟩,
          ⟨(some 31), none, .pick (.t 29) (.t 30) (.c (.bool false))⟩,
          ⟨(some 4), none, .take 31⟩])
        .ret)
       .skip))
     (.seq
      (.seq
       (.reg [⟨(some 32), none, .mv (.t 5)⟩,
         ⟨(some 33), none, .len false (.t 32)⟩,
         ⟨(some 34), none, .mv (.t 0)⟩,
         ⟨(some 35), none, .call 12 [(.t 34)]⟩,
         ⟨(some 36), none, .len false (.t 35)⟩,
         ⟨(some 37), none, .bin .neq (.t 33) (.t 36)⟩,
         ⟨(some 38), none, .take 37⟩,
         ⟨(some 39), (some (38, false)), .mv (.t 6)⟩,
         ⟨(some 40), (some (38, false)), .len false (.t 39)⟩,
         ⟨(some 41), (some (38, false)), .mv (.t 5)⟩,
         ⟨(some 42), (some (38, false)), .len false (.t 41)⟩,
         ⟨(some 43), (some (38, false)), .bin .neq (.t 40) (.t 42)⟩,
         ⟨(some 44), none, .pick (.t 38) (.c (.bool true)) (.t 43)⟩])
       (.cond (.t 44)
        (.seq
         (.reg [⟨(some 4), none, .mv (.c (.bool false))⟩])
         .ret)
        .skip))
      (.seq
       (.seq
        (.reg [⟨(some 7), none, .mv (.c (.int .i64 1))⟩])
        (.block 0
         (.loop
          (.seq
           (.seq
            (.reg [⟨(some 45), none, .mv (.t 7)⟩,
              ⟨(some 46), none, .mv (.t 5)⟩,
              ⟨(some 47), none, .len false (.t 46)⟩,
              ⟨(some 48), none, .bin .lss (.t 45) (.t 47)⟩])
            (.cond (.t 48)
             .skip
             (.exit 0)))
           (.seq
            (.block 1
             (.seq
              (.dreg [] [⟨(some 51), none, .mv (.t 5)⟩,
                ⟨(some 52), none, .mv (.t 7)⟩,
                ⟨(some 53), none, .iaddr 1 (.t 51) (.t 52)⟩,
                ⟨(some 54), none, .load none (.t 53)⟩,
                ⟨(some 55), none, .len false (.t 54)⟩,
                ⟨(some 56), none, .mv (.t 5)⟩,
                ⟨(some 57), none, .mv (.t 7)⟩,
                ⟨(some 58), none, .bin .sub (.t 57) (.c (.int .i64 1))⟩,
                ⟨(some 59), none, .iaddr 1 (.t 56) (.t 58)⟩,
                ⟨(some 60), none, .load none (.t 59)⟩,
                ⟨(some 61), none, .len false (.t 60)⟩,
                ⟨(some 62), none, .bin .gtr (.t 55) (.t 61)⟩,
                ⟨(some 63), none, .mv (.t 62)⟩,
                ⟨(some 64), (some (63, false)), .mv (.t 5)⟩,
                ⟨(some 65), (some (63, false)), .mv (.t 7)⟩,
                ⟨(some 66), (some (63, false)), .iaddr 1 (.t 64) (.t 65)⟩,
                ⟨(some 67), (some (63, false)), .load none (.t 66)⟩,
                ⟨(some 68), (some (63, false)), .len false (.t 67)⟩,
                ⟨(some 69), (some (63, false)), .mv (.t 6)⟩,
                ⟨(some 70), (some (63, false)), .mv (.t 7)⟩,
                ⟨(some 71), (some (63, false)), .iaddr 1 (.t 69) (.t 70)⟩,
                ⟨(some 72), (some (63, false)), .load none (.t 71)⟩,
                ⟨(some 73), (some (63, false)), .len false (.t 72)⟩,
                ⟨(some 74), (some (63, false)), .bin .neq (.t 68) (.t 73)⟩,
                ⟨(some 75), none, .pick (.t 63) (.c (.bool true)) (.t 74)⟩])
              (.cond (.t 75)
               (.seq
                (.reg [⟨(some 4), none, .mv (.c (.bool false))⟩])
                .ret)
               .skip)))
            (.reg [⟨(some 49), none, .take 7⟩,
              ⟨(some 50), none, .bin .add (.t 49) (.c (.int .i64 1))⟩,
              ⟨(some 7), none, .take 50⟩]))))))
       (.seq
        (.reg [⟨(some 76), none, .mv (.t 5)⟩,
          ⟨(some 77), none, .mv (.t 1)⟩,
          ⟨(some 78), none, .conv .i64 (.t 77)⟩,
          ⟨(some 79), none, .call 22 [(.t 76), (.t 78)]⟩,
          ⟨(some 80), none, .take 79⟩,
          ⟨(some 81), (some (80, true)), .mv (.t 6)⟩,
          ⟨(some 82), (some (80, true)), .mv (.t 1)⟩,
          ⟨(some 83), (some (80, true)), .conv .i64 (.t 82)⟩,
          ⟨(some 84), (some (80, true)), .call 22 [(.t 81), (.t 83)]⟩,
          ⟨(some 85), none, .pick (.t 80) (.t 84) (.c (.bool false))⟩,
          ⟨(some 86), none, .take 85⟩,
          ⟨(some 87), (some (86, true)), .call 11 []⟩,
          ⟨(some 88), none, .pick (.t 86) (.t 87) (.c (.bool false))⟩,
          ⟨(some 4), none, .take 88⟩])
        .ret)))))))
def ar4 : List AR := [.t 4]
theorem comp4 : Try.f4.body.bind (comp Try.prog 89) = some ac4 := by kernel_rfl
theorem cres4 : compRes Try.prog Try.f4.results.toList = some ar4 := by kernel_rfl
/-- bilander/bilanderlaw19.AssignOrder -/
def ac5 : AC :=
 (.seq
  (.reg [⟨(some 4), none, .mv (.c (.bool false))⟩])
  (.seq
   (.seq
    (.reg [⟨(some 8), none, .mv (.t 0)⟩,
      ⟨(some 9), none, .call 10 [(.t 8)]⟩,
      ⟨(some 10), none, .una .not (.t 9)⟩,
      ⟨(some 11), none, .take 10⟩,
      ⟨(some 12), (some (11, false)), .mv (.t 0)⟩,
      ⟨(some 13), (some (11, false)), .len false (.t 12)⟩,
      ⟨(some 14), (some (11, false)), .bin .gtr (.t 13) (.c (.int .i64 20))⟩,
      ⟨(some 15), none, .pick (.t 11) (.c (.bool true)) (.t 14)⟩])
    (.cond (.t 15)
     (.seq
      (.reg [⟨(some 16), none, .call 11 []⟩,
        ⟨(some 4), none, .take 16⟩])
      .ret)
     .skip))
   (.seq
    (.reg [⟨(some 5), none, .mv (.c .nils)⟩])
    (.seq
     (.seq
      (.reg [⟨(some 6), none, .mv (.c (.int .i64 0))⟩])
      (.block 0
       (.loop
        (.seq
         (.seq
          (.reg [⟨(some 17), none, .mv (.t 6)⟩,
            ⟨(some 18), none, .mv (.t 0)⟩,
            ⟨(some 19), none, .len false (.t 18)⟩,
            ⟨(some 20), none, .bin .lss (.t 17) (.t 19)⟩])
          (.cond (.t 20)
           .skip
           (.exit 0)))
         (.seq
          (.block 1
           (.reg [⟨(some 23), none, .take 5⟩,
             ⟨(some 24), none, .mv (.t 0)⟩,
             ⟨(some 25), none, .mv (.t 0)⟩,
             ⟨(some 26), none, .len false (.t 25)⟩,
             ⟨(some 27), none, .bin .sub (.t 26) (.c (.int .i64 1))⟩,
             ⟨(some 28), none, .mv (.t 6)⟩,
             ⟨(some 29), none, .bin .sub (.t 27) (.t 28)⟩,
             ⟨(some 30), none, .iaddr 1 (.t 24) (.t 29)⟩,
             ⟨(some 31), none, .load none (.t 30)⟩,
             ⟨(some 32), none, .bsl 1 1 [(.str (ByteArray.mk #[]))] [(0, (.t 31))]⟩,
             ⟨(some 33), none, .app 1 16 23 (.t 32)⟩,
             ⟨(some 5), none, .take 33⟩]))
          (.reg [⟨(some 21), none, .take 6⟩,
            ⟨(some 22), none, .bin .add (.t 21) (.c (.int .i64 1))⟩,
            ⟨(some 6), none, .take 22⟩]))))))
     (.seq
      (.reg [⟨(some 34), none, .take 5⟩,
        ⟨(some 35), none, .mv (.t 0)⟩,
        ⟨(some 36), none, .app 1 16 34 (.t 35)⟩,
        ⟨(some 5), none, .take 36⟩])
      (.seq
       (.seq
        (.reg [⟨(some 7), none, .mv (.c (.int .i64 0))⟩])
        (.block 2
         (.loop
          (.seq
           (.seq
            (.reg [⟨(some 37), none, .mv (.t 7)⟩,
              ⟨(some 38), none, .mv (.t 0)⟩,
              ⟨(some 39), none, .len false (.t 38)⟩,
              ⟨(some 40), none, .bin .lss (.t 37) (.t 39)⟩])
            (.cond (.t 40)
             .skip
             (.exit 2)))
           (.seq
            (.block 3
             (.seq
              (.dreg [] [⟨(some 43), none, .mv (.t 0)⟩,
                ⟨(some 44), none, .mv (.t 1)⟩,
                ⟨(some 45), none, .conv .i64 (.t 44)⟩,
                ⟨(some 46), none, .mv (.t 0)⟩,
                ⟨(some 47), none, .mv (.t 7)⟩,
                ⟨(some 48), none, .iaddr 1 (.t 46) (.t 47)⟩,
                ⟨(some 49), none, .load none (.t 48)⟩,
                ⟨(some 50), none, .call 20 [(.t 43), (.t 45), (.t 49)]⟩,
                ⟨(some 51), none, .mv (.t 5)⟩,
                ⟨(some 52), none, .mv (.t 1)⟩,
                ⟨(some 53), none, .conv .i64 (.t 52)⟩,
                ⟨(some 54), none, .mv (.t 0)⟩,
                ⟨(some 55), none, .mv (.t 7)⟩,
                ⟨(some 56), none, .iaddr 1 (.t 54) (.t 55)⟩,
                ⟨(some 57), none, .load none (.t 56)⟩,
                ⟨(some 58), none, .call 20 [(.t 51), (.t 53), (.t 57)]⟩,
                ⟨(some 59), none, .call 19 [(.t 50), (.t 58)]⟩,
                ⟨(some 60), none, .una .not (.t 59)⟩])
              (.cond (.t 60)
               (.seq
                (.reg [⟨(some 4), none, .mv (.c (.bool false))⟩])
                .ret)
               .skip)))
            (.reg [⟨(some 41), none, .take 7⟩,
              ⟨(some 42), none, .bin .add (.t 41) (.c (.int .i64 1))⟩,
              ⟨(some 7), none, .take 42⟩]))))))
       (.seq
        (.reg [⟨(some 61), none, .mv (.t 0)⟩,
          ⟨(some 62), none, .mv (.t 1)⟩,
          ⟨(some 63), none, .conv .i64 (.t 62)⟩,
          ⟨(some 64), none, .call 17 [(.t 61), (.t 63)]⟩,
          ⟨(some 65), none, .mv (.t 5)⟩,
          ⟨(some 66), none, .mv (.t 1)⟩,
          ⟨(some 67), none, .conv .i64 (.t 66)⟩,
          ⟨(some 68), none, .call 17 [(.t 65), (.t 67)]⟩,
          ⟨(some 69), none, .call 14 [(.t 64), (.t 68)]⟩,
          ⟨(some 70), none, .take 69⟩,
          ⟨(some 71), (some (70, true)), .call 11 []⟩,
          ⟨(some 72), none, .pick (.t 70) (.t 71) (.c (.bool false))⟩,
          ⟨(some 4), none, .take 72⟩])
        .ret)))))))
def ar5 : List AR := [.t 4]
theorem comp5 : Try.f5.body.bind (comp Try.prog 73) = some ac5 := by kernel_rfl
theorem cres5 : compRes Try.prog Try.f5.results.toList = some ar5 := by kernel_rfl
/-- bilander/bilanderref19.Light -/
def ac10 : AC :=
 (.seq
  (.reg [⟨(some 2), none, .mv (.c (.bool false))⟩])
  (.seq
   (.seq
    (.reg [⟨(some 4), none, .mv (.t 0)⟩,
      ⟨(some 5), none, .len false (.t 4)⟩,
      ⟨(some 6), none, .bin .gtr (.t 5) (.c (.int .i64 40))⟩])
    (.cond (.t 6)
     (.seq
      (.reg [⟨(some 2), none, .mv (.c (.bool false))⟩])
      .ret)
     .skip))
   (.seq
    (.seq
     (.reg [⟨(some 3), none, .mv (.c (.int .i64 0))⟩])
     (.block 0
      (.loop
       (.seq
        (.seq
         (.reg [⟨(some 7), none, .mv (.t 3)⟩,
           ⟨(some 8), none, .mv (.t 0)⟩,
           ⟨(some 9), none, .len false (.t 8)⟩,
           ⟨(some 10), none, .bin .lss (.t 7) (.t 9)⟩])
         (.cond (.t 10)
          .skip
          (.exit 0)))
        (.seq
         (.block 1
          (.seq
           (.reg [⟨(some 13), none, .mv (.t 0)⟩,
             ⟨(some 14), none, .mv (.t 3)⟩,
             ⟨(some 15), none, .iaddr 1 (.t 13) (.t 14)⟩,
             ⟨(some 16), none, .load none (.t 15)⟩,
             ⟨(some 17), none, .len true (.t 16)⟩,
             ⟨(some 18), none, .bin .gtr (.t 17) (.c (.int .i64 60))⟩])
           (.cond (.t 18)
            (.seq
             (.reg [⟨(some 2), none, .mv (.c (.bool false))⟩])
             .ret)
            .skip)))
         (.reg [⟨(some 11), none, .take 3⟩,
           ⟨(some 12), none, .bin .add (.t 11) (.c (.int .i64 1))⟩,
           ⟨(some 3), none, .take 12⟩]))))))
    (.seq
     (.reg [⟨(some 2), none, .mv (.c (.bool true))⟩])
     .ret))))
def ar10 : List AR := [.t 2]
theorem comp10 : Try.f10.body.bind (comp Try.prog 19) = some ac10 := by kernel_rfl
theorem cres10 : compRes Try.prog Try.f10.results.toList = some ar10 := by kernel_rfl
/-- bilander/bilanderlaw19.awake -/
def ac11 : AC :=
 (.seq
  (.reg [⟨(some 0), none, .mv (.c (.bool false))⟩])
  (.seq
   (.reg [⟨(some 4), none, .bsl 1 3 [(.str (ByteArray.mk #[]))] [(0, (.c (.str (ByteArray.mk #[98])))), (1, (.c (.str (ByteArray.mk #[97])))), (2, (.c (.str (ByteArray.mk #[98]))))]⟩,
     ⟨(some 1), none, .take 4⟩])
   (.seq
    (.reg [⟨(some 5), none, .mv (.t 1)⟩,
      ⟨(some 6), none, .call 15 [(.t 5), (.c (.int .i64 5))]⟩,
      ⟨(some 7), none, .mv (.t 1)⟩,
      ⟨(some 8), none, .call 17 [(.t 7), (.c (.int .i64 5))]⟩,
      ⟨(some 2), none, .take 6⟩,
      ⟨(some 3), none, .take 8⟩])
    (.seq
     (.reg [⟨(some 9), none, .mv (.t 1)⟩,
       ⟨(some 10), none, .call 12 [(.t 9)]⟩,
       ⟨(some 11), none, .len false (.t 10)⟩,
       ⟨(some 12), none, .bin .eql (.t 11) (.c (.int .i64 2))⟩,
       ⟨(some 13), none, .take 12⟩,
       ⟨(some 14), (some (13, true)), .mv (.t 2)⟩,
       ⟨(some 15), (some (13, true)), .bsl 1 3 [(.int .i64 0)] [(0, (.c (.int .i64 0))), (1, (.c (.int .i64 1))), (2, (.c (.int .i64 2)))]⟩,
       ⟨(some 16), (some (13, true)), .bsl 1 2 [(.int .i64 0)] [(0, (.c (.int .i64 3))), (1, (.c (.int .i64 4)))]⟩,
       ⟨(some 17), (some (13, true)), .bsl 1 2 [.nils] [(0, (.t 15)), (1, (.t 16))]⟩,
       ⟨(some 18), (some (13, true)), .call 14 [(.t 14), (.t 17)]⟩,
       ⟨(some 19), none, .pick (.t 13) (.t 18) (.c (.bool false))⟩,
       ⟨(some 20), none, .take 19⟩,
       ⟨(some 21), (some (20, true)), .mv (.t 3)⟩,
       ⟨(some 22), (some (20, true)), .bsl 1 3 [(.int .i64 0)] [(0, (.c (.int .i64 0))), (1, (.c (.int .i64 2))), (2, (.c (.int .i64 4)))]⟩,
       ⟨(some 23), (some (20, true)), .bsl 1 2 [(.int .i64 0)] [(0, (.c (.int .i64 1))), (1, (.c (.int .i64 3)))]⟩,
       ⟨(some 24), (some (20, true)), .bsl 1 2 [.nils] [(0, (.t 22)), (1, (.t 23))]⟩,
       ⟨(some 25), (some (20, true)), .call 14 [(.t 21), (.t 24)]⟩,
       ⟨(some 26), none, .pick (.t 20) (.t 25) (.c (.bool false))⟩,
       ⟨(some 27), none, .take 26⟩,
       ⟨(some 28), (some (27, true)), .mv (.t 1)⟩,
       ⟨(some 29), (some (27, true)), .call 20 [(.t 28), (.c (.int .i64 5)), (.c (.str (ByteArray.mk #[98])))]⟩,
       ⟨(some 30), (some (27, true)), .len false (.t 29)⟩,
       ⟨(some 31), (some (27, true)), .bin .eql (.t 30) (.c (.int .i64 2))⟩,
       ⟨(some 32), none, .pick (.t 27) (.t 31) (.c (.bool false))⟩,
       ⟨(some 33), none, .take 32⟩,
       ⟨(some 34), (some (33, true)), .mv (.t 1)⟩,
       ⟨(some 35), (some (33, true)), .call 20 [(.t 34), (.c (.int .i64 5)), (.c (.str (ByteArray.mk #[99])))]⟩,
       ⟨(some 36), (some (33, true)), .len false (.t 35)⟩,
       ⟨(some 37), (some (33, true)), .bin .eql (.t 36) (.c (.int .i64 0))⟩,
       ⟨(some 38), none, .pick (.t 33) (.t 37) (.c (.bool false))⟩,
       ⟨(some 0), none, .take 38⟩])
     .ret))))
def ar11 : List AR := [.t 0]
theorem comp11 : Try.f11.body.bind (comp Try.prog 39) = some ac11 := by kernel_rfl
theorem cres11 : compRes Try.prog Try.f11.results.toList = some ar11 := by kernel_rfl
/-- bilander/assign.Sorted -/
def ac12 : AC :=
 (.seq
  (.reg [⟨(some 2), none, .mv (.c .nils)⟩])
  (.seq
   (.reg [⟨(some 4), none, .mv (.t 0)⟩,
     ⟨(some 5), none, .call 37 [(.t 4)]⟩,
     ⟨(some 3), none, .take 5⟩])
   (.seq
    (.reg [⟨(some 6), none, .mv (.t 3)⟩,
      ⟨(some 7), none, .call 38 [(.t 6)]⟩])
    (.seq
     (.reg [⟨(some 8), none, .mv (.t 3)⟩,
       ⟨(some 9), none, .call 39 [(.t 8)]⟩,
       ⟨(some 2), none, .take 9⟩])
     .ret))))
def ar12 : List AR := [.t 2]
theorem comp12 : Try.f12.body.bind (comp Try.prog 10) = some ac12 := by kernel_rfl
theorem cres12 : compRes Try.prog Try.f12.results.toList = some ar12 := by kernel_rfl
/-- bilander/bilanderref19.Sorted -/
def ac13 : AC :=
 (.seq
  (.reg [⟨(some 2), none, .mv (.c .nils)⟩])
  (.seq
   (.reg [⟨(some 3), none, .mv (.c .nils)⟩])
   (.seq
    (.seq
     (.reg [⟨(some 4), none, .mv (.c (.int .i64 0))⟩])
     (.block 0
      (.loop
       (.seq
        (.seq
         (.reg [⟨(some 7), none, .mv (.t 4)⟩,
           ⟨(some 8), none, .mv (.t 0)⟩,
           ⟨(some 9), none, .len false (.t 8)⟩,
           ⟨(some 10), none, .bin .lss (.t 7) (.t 9)⟩])
         (.cond (.t 10)
          .skip
          (.exit 0)))
        (.seq
         (.block 1
          (.seq
           (.reg [⟨(some 5), none, .mv (.c (.int .i64 0))⟩])
           (.seq
            (.block 2
             (.loop
              (.seq
               (.seq
                (.dreg [] [⟨(some 13), none, .mv (.t 5)⟩,
                  ⟨(some 14), none, .mv (.t 3)⟩,
                  ⟨(some 15), none, .len false (.t 14)⟩,
                  ⟨(some 16), none, .bin .lss (.t 13) (.t 15)⟩,
                  ⟨(some 17), none, .mv (.t 16)⟩,
                  ⟨(some 18), (some (17, true)), .mv (.t 3)⟩,
                  ⟨(some 19), (some (17, true)), .mv (.t 5)⟩,
                  ⟨(some 20), (some (17, true)), .iaddr 1 (.t 18) (.t 19)⟩,
                  ⟨(some 21), (some (17, true)), .load none (.t 20)⟩,
                  ⟨(some 22), (some (17, true)), .mv (.t 0)⟩,
                  ⟨(some 23), (some (17, true)), .mv (.t 4)⟩,
                  ⟨(some 24), (some (17, true)), .iaddr 1 (.t 22) (.t 23)⟩,
                  ⟨(some 25), (some (17, true)), .load none (.t 24)⟩,
                  ⟨(some 26), (some (17, true)), .bin .lss (.t 21) (.t 25)⟩,
                  ⟨(some 27), none, .pick (.t 17) (.t 26) (.c (.bool false))⟩])
                (.cond (.t 27)
                 .skip
                 (.exit 2)))
               (.block 3
                (.reg [⟨(some 28), none, .take 5⟩,
                  ⟨(some 29), none, .bin .add (.t 28) (.c (.int .i64 1))⟩,
                  ⟨(some 5), none, .take 29⟩])))))
            (.seq
             (.seq
              (.dreg [] [⟨(some 30), none, .mv (.t 5)⟩,
                ⟨(some 31), none, .mv (.t 3)⟩,
                ⟨(some 32), none, .len false (.t 31)⟩,
                ⟨(some 33), none, .bin .lss (.t 30) (.t 32)⟩,
                ⟨(some 34), none, .mv (.t 33)⟩,
                ⟨(some 35), (some (34, true)), .mv (.t 3)⟩,
                ⟨(some 36), (some (34, true)), .mv (.t 5)⟩,
                ⟨(some 37), (some (34, true)), .iaddr 1 (.t 35) (.t 36)⟩,
                ⟨(some 38), (some (34, true)), .load none (.t 37)⟩,
                ⟨(some 39), (some (34, true)), .mv (.t 0)⟩,
                ⟨(some 40), (some (34, true)), .mv (.t 4)⟩,
                ⟨(some 41), (some (34, true)), .iaddr 1 (.t 39) (.t 40)⟩,
                ⟨(some 42), (some (34, true)), .load none (.t 41)⟩,
                ⟨(some 43), (some (34, true)), .bin .eql (.t 38) (.t 42)⟩,
                ⟨(some 44), none, .pick (.t 34) (.t 43) (.c (.bool false))⟩])
              (.cond (.t 44)
               (.exit 1)
               .skip))
             (.seq
              (.reg [⟨(some 6), none, .mv (.c .nils)⟩])
              (.dreg [] [⟨(some 45), none, .mv (.t 6)⟩,
                ⟨(some 46), none, .mv (.t 3)⟩,
                ⟨(some 47), none, .mv (.t 5)⟩,
                ⟨(some 48), none, .slc false 1 (.t 46) none (some (.t 47))⟩,
                ⟨(some 49), none, .app 1 16 45 (.t 48)⟩,
                ⟨(some 50), none, .mv (.t 0)⟩,
                ⟨(some 51), none, .mv (.t 4)⟩,
                ⟨(some 52), none, .iaddr 1 (.t 50) (.t 51)⟩,
                ⟨(some 53), none, .load none (.t 52)⟩,
                ⟨(some 54), none, .bsl 1 1 [(.str (ByteArray.mk #[]))] [(0, (.t 53))]⟩,
                ⟨(some 55), none, .app 1 16 49 (.t 54)⟩,
                ⟨(some 56), none, .mv (.t 3)⟩,
                ⟨(some 57), none, .mv (.t 5)⟩,
                ⟨(some 58), none, .slc false 1 (.t 56) (some (.t 57)) none⟩,
                ⟨(some 59), none, .app 1 16 55 (.t 58)⟩,
                ⟨(some 3), none, .take 59⟩]))))))
         (.reg [⟨(some 11), none, .take 4⟩,
           ⟨(some 12), none, .bin .add (.t 11) (.c (.int .i64 1))⟩,
           ⟨(some 4), none, .take 12⟩]))))))
    (.seq
     (.reg [⟨(some 60), none, .take 3⟩,
       ⟨(some 2), none, .take 60⟩])
     .ret))))
def ar13 : List AR := [.t 2]
theorem comp13 : Try.f13.body.bind (comp Try.prog 61) = some ac13 := by kernel_rfl
theorem cres13 : compRes Try.prog Try.f13.results.toList = some ar13 := by kernel_rfl
/-- bilander/bilanderref19.Same -/
def ac14 : AC :=
 (.seq
  (.reg [⟨(some 4), none, .mv (.c (.bool false))⟩])
  (.seq
   (.seq
    (.reg [⟨(some 6), none, .mv (.t 0)⟩,
      ⟨(some 7), none, .len false (.t 6)⟩,
      ⟨(some 8), none, .mv (.t 1)⟩,
      ⟨(some 9), none, .len false (.t 8)⟩,
      ⟨(some 10), none, .bin .neq (.t 7) (.t 9)⟩])
    (.cond (.t 10)
     (.seq
      (.reg [⟨(some 4), none, .mv (.c (.bool false))⟩])
      .ret)
     .skip))
   (.seq
    (.seq
     (.reg [⟨(some 5), none, .mv (.c (.int .i64 0))⟩])
     (.block 0
      (.loop
       (.seq
        (.seq
         (.reg [⟨(some 11), none, .mv (.t 5)⟩,
           ⟨(some 12), none, .mv (.t 0)⟩,
           ⟨(some 13), none, .len false (.t 12)⟩,
           ⟨(some 14), none, .bin .lss (.t 11) (.t 13)⟩])
         (.cond (.t 14)
          .skip
          (.exit 0)))
        (.seq
         (.block 1
          (.seq
           (.dreg [] [⟨(some 17), none, .mv (.t 0)⟩,
             ⟨(some 18), none, .mv (.t 5)⟩,
             ⟨(some 19), none, .iaddr 1 (.t 17) (.t 18)⟩,
             ⟨(some 20), none, .load none (.t 19)⟩,
             ⟨(some 21), none, .mv (.t 1)⟩,
             ⟨(some 22), none, .mv (.t 5)⟩,
             ⟨(some 23), none, .iaddr 1 (.t 21) (.t 22)⟩,
             ⟨(some 24), none, .load none (.t 23)⟩,
             ⟨(some 25), none, .call 19 [(.t 20), (.t 24)]⟩,
             ⟨(some 26), none, .una .not (.t 25)⟩])
           (.cond (.t 26)
            (.seq
             (.reg [⟨(some 4), none, .mv (.c (.bool false))⟩])
             .ret)
            .skip)))
         (.reg [⟨(some 15), none, .take 5⟩,
           ⟨(some 16), none, .bin .add (.t 15) (.c (.int .i64 1))⟩,
           ⟨(some 5), none, .take 16⟩]))))))
    (.seq
     (.reg [⟨(some 4), none, .mv (.c (.bool true))⟩])
     .ret))))
def ar14 : List AR := [.t 4]
theorem comp14 : Try.f14.body.bind (comp Try.prog 27) = some ac14 := by kernel_rfl
theorem cres14 : compRes Try.prog Try.f14.results.toList = some ar14 := by kernel_rfl
/-- bilander/assign.Range -/
def ac15 : AC :=
 (.seq
  (.reg [⟨(some 4), none, .mv (.c .nils)⟩])
  (.seq
   (.reg [⟨(some 10), none, .mv (.t 0)⟩,
     ⟨(some 11), none, .call 12 [(.t 10)]⟩,
     ⟨(some 12), none, .len false (.t 11)⟩,
     ⟨(some 13), none, .mks 1 24 [.nils] (.t 12)⟩,
     ⟨(some 5), none, .take 13⟩])
   (.seq
    (.reg [⟨(some 14), none, .mv (.t 5)⟩,
      ⟨(some 15), none, .len false (.t 14)⟩,
      ⟨(some 6), none, .take 15⟩])
    (.seq
     (.reg [⟨(some 7), none, .mv (.c (.int .i64 0))⟩])
     (.seq
      (.seq
       (.reg [⟨(some 16), none, .mv (.t 6)⟩,
         ⟨(some 17), none, .mv (.c (.int .i64 0))⟩])
       (.block 0
        (.loop
         (.seq
          (.reg [⟨(some 18), none, .bin .lss (.t 17) (.t 16)⟩])
          (.seq
           (.cond (.t 18)
            .skip
            (.exit 0))
           (.seq
            (.block 1
             (.seq
              (.reg [⟨(some 19), none, .take 17⟩,
                ⟨(some 8), none, .take 19⟩])
              (.seq
               (.reg [⟨(some 20), none, .mv (.t 1)⟩,
                 ⟨(some 21), none, .call 40 [(.t 20)]⟩,
                 ⟨(some 22), none, .mv (.t 6)⟩,
                 ⟨(some 23), none, .bin .add (.t 21) (.t 22)⟩,
                 ⟨(some 24), none, .bin .sub (.t 23) (.c (.int .i64 1))⟩,
                 ⟨(some 25), none, .mv (.t 8)⟩,
                 ⟨(some 26), none, .bin .sub (.t 24) (.t 25)⟩,
                 ⟨(some 27), none, .mv (.t 6)⟩,
                 ⟨(some 28), none, .bin .quo (.t 26) (.t 27)⟩,
                 ⟨(some 9), none, .take 28⟩])
               (.seq
                (.reg [⟨(some 29), none, .mv (.t 9)⟩,
                  ⟨(some 30), none, .mv (.c (.int .i64 0))⟩])
                (.block 2
                 (.loop
                  (.seq
                   (.reg [⟨(some 31), none, .bin .lss (.t 30) (.t 29)⟩])
                   (.seq
                    (.cond (.t 31)
                     .skip
                     (.exit 2))
                    (.seq
                     (.block 3
                      (.seq
                       (.reg [⟨(some 32), none, .mv (.t 5)⟩,
                         ⟨(some 33), none, .mv (.t 8)⟩,
                         ⟨(some 34), none, .mv (.t 5)⟩,
                         ⟨(some 35), none, .mv (.t 8)⟩,
                         ⟨(some 36), none, .iaddr 1 (.t 34) (.t 35)⟩,
                         ⟨(some 37), none, .takeLoad (.t 36)⟩,
                         ⟨(some 38), none, .mv (.t 7)⟩,
                         ⟨(some 39), none, .bsl 1 1 [(.int .i64 0)] [(0, (.t 38))]⟩,
                         ⟨(some 40), none, .app 1 8 37 (.t 39)⟩,
                         ⟨(some 41), none, .iaddr 1 (.t 32) (.t 33)⟩,
                         ⟨none, none, .storeO (.t 41) 40⟩])
                       (.reg [⟨(some 42), none, .take 7⟩,
                         ⟨(some 43), none, .bin .add (.t 42) (.c (.int .i64 1))⟩,
                         ⟨(some 7), none, .take 43⟩])))
                     (.reg [⟨(some 44), none, .bin .add (.t 30) (.c (.int .i64 1))⟩,
                       ⟨(some 30), none, .take 44⟩]))))))))))
            (.reg [⟨(some 45), none, .bin .add (.t 17) (.c (.int .i64 1))⟩,
              ⟨(some 17), none, .take 45⟩])))))))
      (.seq
       (.reg [⟨(some 46), none, .take 5⟩,
         ⟨(some 4), none, .take 46⟩])
       .ret))))))
def ar15 : List AR := [.t 4]
theorem comp15 : Try.f15.body.bind (comp Try.prog 47) = some ac15 := by kernel_rfl
theorem cres15 : compRes Try.prog Try.f15.results.toList = some ar15 := by kernel_rfl
/-- bilander/bilanderref19.Range -/
def ac16 : AC :=
 (.seq
  (.reg [⟨(some 4), none, .mv (.c .nils)⟩])
  (.seq
   (.reg [⟨(some 11), none, .mv (.t 0)⟩,
     ⟨(some 12), none, .call 13 [(.t 11)]⟩,
     ⟨(some 13), none, .len false (.t 12)⟩,
     ⟨(some 5), none, .take 13⟩])
   (.seq
    (.reg [⟨(some 14), none, .mv (.t 1)⟩,
      ⟨(some 15), none, .minmax false (.t 14) (.c (.int .i64 1000))⟩,
      ⟨(some 16), none, .minmax true (.c (.int .i64 0)) (.t 15)⟩,
      ⟨(some 6), none, .take 16⟩])
    (.seq
     (.reg [⟨(some 7), none, .mv (.c .nils)⟩])
     (.seq
      (.reg [⟨(some 8), none, .mv (.c (.int .i64 0))⟩])
      (.seq
       (.seq
        (.reg [⟨(some 9), none, .mv (.c (.int .i64 0))⟩])
        (.block 0
         (.loop
          (.seq
           (.seq
            (.reg [⟨(some 17), none, .mv (.t 9)⟩,
              ⟨(some 18), none, .mv (.t 5)⟩,
              ⟨(some 19), none, .bin .lss (.t 17) (.t 18)⟩])
            (.cond (.t 19)
             .skip
             (.exit 0)))
           (.seq
            (.block 1
             (.seq
              (.reg [⟨(some 22), none, .mv (.t 6)⟩,
                ⟨(some 23), none, .mv (.t 5)⟩,
                ⟨(some 24), none, .bin .quo (.t 22) (.t 23)⟩,
                ⟨(some 10), none, .take 24⟩])
              (.seq
               (.seq
                (.reg [⟨(some 25), none, .mv (.t 9)⟩,
                  ⟨(some 26), none, .mv (.t 6)⟩,
                  ⟨(some 27), none, .mv (.t 5)⟩,
                  ⟨(some 28), none, .bin .rem (.t 26) (.t 27)⟩,
                  ⟨(some 29), none, .bin .lss (.t 25) (.t 28)⟩])
                (.cond (.t 29)
                 (.reg [⟨(some 30), none, .take 10⟩,
                   ⟨(some 31), none, .bin .add (.t 30) (.c (.int .i64 1))⟩,
                   ⟨(some 10), none, .take 31⟩])
                 .skip))
               (.seq
                (.reg [⟨(some 32), none, .take 7⟩,
                  ⟨(some 33), none, .mv (.t 8)⟩,
                  ⟨(some 34), none, .mv (.t 6)⟩,
                  ⟨(some 35), none, .mv (.t 10)⟩,
                  ⟨(some 36), none, .call 41 [(.t 33), (.c (.int .i64 1)), (.t 34), (.t 35)]⟩,
                  ⟨(some 37), none, .bsl 1 1 [.nils] [(0, (.t 36))]⟩,
                  ⟨(some 38), none, .app 1 24 32 (.t 37)⟩,
                  ⟨(some 7), none, .take 38⟩])
                (.reg [⟨(some 39), none, .take 8⟩,
                  ⟨(some 40), none, .mv (.t 10)⟩,
                  ⟨(some 41), none, .bin .add (.t 39) (.t 40)⟩,
                  ⟨(some 8), none, .take 41⟩])))))
            (.reg [⟨(some 20), none, .take 9⟩,
              ⟨(some 21), none, .bin .add (.t 20) (.c (.int .i64 1))⟩,
              ⟨(some 9), none, .take 21⟩]))))))
       (.seq
        (.reg [⟨(some 42), none, .take 7⟩,
          ⟨(some 4), none, .take 42⟩])
        .ret)))))))
def ar16 : List AR := [.t 4]
theorem comp16 : Try.f16.body.bind (comp Try.prog 43) = some ac16 := by kernel_rfl
theorem cres16 : compRes Try.prog Try.f16.results.toList = some ar16 := by kernel_rfl
/-- bilander/assign.Turns -/
def ac17 : AC :=
 (.seq
  (.reg [⟨(some 4), none, .mv (.c .nils)⟩])
  (.seq
   (.reg [⟨(some 8), none, .mv (.t 0)⟩,
     ⟨(some 9), none, .call 12 [(.t 8)]⟩,
     ⟨(some 10), none, .len false (.t 9)⟩,
     ⟨(some 11), none, .mks 1 24 [.nils] (.t 10)⟩,
     ⟨(some 5), none, .take 11⟩])
   (.seq
    (.seq
     (.reg [⟨(some 12), none, .mv (.t 5)⟩,
       ⟨(some 13), none, .len false (.t 12)⟩,
       ⟨(some 14), none, .bin .eql (.t 13) (.c (.int .i64 0))⟩])
     (.cond (.t 14)
      (.seq
       (.reg [⟨(some 15), none, .take 5⟩,
         ⟨(some 4), none, .take 15⟩])
       .ret)
      .skip))
    (.seq
     (.seq
      (.reg [⟨(some 16), none, .mv (.t 1)⟩,
        ⟨(some 17), none, .call 40 [(.t 16)]⟩,
        ⟨(some 18), none, .mv (.c (.int .i64 0))⟩])
      (.block 0
       (.loop
        (.seq
         (.reg [⟨(some 19), none, .bin .lss (.t 18) (.t 17)⟩])
         (.seq
          (.cond (.t 19)
           .skip
           (.exit 0))
          (.seq
           (.block 1
            (.seq
             (.reg [⟨(some 20), none, .take 18⟩,
               ⟨(some 6), none, .take 20⟩])
             (.seq
              (.reg [⟨(some 21), none, .mv (.t 6)⟩,
                ⟨(some 22), none, .mv (.t 5)⟩,
                ⟨(some 23), none, .len false (.t 22)⟩,
                ⟨(some 24), none, .bin .rem (.t 21) (.t 23)⟩,
                ⟨(some 7), none, .take 24⟩])
              (.reg [⟨(some 25), none, .mv (.t 5)⟩,
                ⟨(some 26), none, .mv (.t 7)⟩,
                ⟨(some 27), none, .mv (.t 5)⟩,
                ⟨(some 28), none, .mv (.t 7)⟩,
                ⟨(some 29), none, .iaddr 1 (.t 27) (.t 28)⟩,
                ⟨(some 30), none, .takeLoad (.t 29)⟩,
                ⟨(some 31), none, .mv (.t 6)⟩,
                ⟨(some 32), none, .bsl 1 1 [(.int .i64 0)] [(0, (.t 31))]⟩,
                ⟨(some 33), none, .app 1 8 30 (.t 32)⟩,
                ⟨(some 34), none, .iaddr 1 (.t 25) (.t 26)⟩,
                ⟨none, none, .storeO (.t 34) 33⟩]))))
           (.reg [⟨(some 35), none, .bin .add (.t 18) (.c (.int .i64 1))⟩,
             ⟨(some 18), none, .take 35⟩])))))))
     (.seq
      (.reg [⟨(some 36), none, .take 5⟩,
        ⟨(some 4), none, .take 36⟩])
      .ret)))))
def ar17 : List AR := [.t 4]
theorem comp17 : Try.f17.body.bind (comp Try.prog 37) = some ac17 := by kernel_rfl
theorem cres17 : compRes Try.prog Try.f17.results.toList = some ar17 := by kernel_rfl
/-- bilander/bilanderref19.Turns -/
def ac18 : AC :=
 (.seq
  (.reg [⟨(some 4), none, .mv (.c .nils)⟩])
  (.seq
   (.reg [⟨(some 9), none, .mv (.t 0)⟩,
     ⟨(some 10), none, .call 13 [(.t 9)]⟩,
     ⟨(some 11), none, .len false (.t 10)⟩,
     ⟨(some 5), none, .take 11⟩])
   (.seq
    (.reg [⟨(some 12), none, .mv (.t 1)⟩,
      ⟨(some 13), none, .minmax false (.t 12) (.c (.int .i64 1000))⟩,
      ⟨(some 14), none, .minmax true (.c (.int .i64 0)) (.t 13)⟩,
      ⟨(some 6), none, .take 14⟩])
    (.seq
     (.reg [⟨(some 7), none, .mv (.c .nils)⟩])
     (.seq
      (.seq
       (.reg [⟨(some 8), none, .mv (.c (.int .i64 0))⟩])
       (.block 0
        (.loop
         (.seq
          (.seq
           (.reg [⟨(some 15), none, .mv (.t 8)⟩,
             ⟨(some 16), none, .mv (.t 5)⟩,
             ⟨(some 17), none, .bin .lss (.t 15) (.t 16)⟩])
           (.cond (.t 17)
            .skip
            (.exit 0)))
          (.seq
           (.block 1
            (.reg [⟨(some 20), none, .take 7⟩,
              ⟨(some 21), none, .mv (.t 8)⟩,
              ⟨(some 22), none, .mv (.t 5)⟩,
              ⟨(some 23), none, .mv (.t 6)⟩,
              ⟨(some 24), none, .mv (.t 6)⟩,
              ⟨(some 25), none, .call 41 [(.t 21), (.t 22), (.t 23), (.t 24)]⟩,
              ⟨(some 26), none, .bsl 1 1 [.nils] [(0, (.t 25))]⟩,
              ⟨(some 27), none, .app 1 24 20 (.t 26)⟩,
              ⟨(some 7), none, .take 27⟩]))
           (.reg [⟨(some 18), none, .take 8⟩,
             ⟨(some 19), none, .bin .add (.t 18) (.c (.int .i64 1))⟩,
             ⟨(some 8), none, .take 19⟩]))))))
      (.seq
       (.reg [⟨(some 28), none, .take 7⟩,
         ⟨(some 4), none, .take 28⟩])
       .ret))))))
def ar18 : List AR := [.t 4]
theorem comp18 : Try.f18.body.bind (comp Try.prog 29) = some ac18 := by kernel_rfl
theorem cres18 : compRes Try.prog Try.f18.results.toList = some ar18 := by kernel_rfl
/-- bilander/bilanderref19.SameOne -/
def ac19 : AC :=
 (.seq
  (.reg [⟨(some 4), none, .mv (.c (.bool false))⟩])
  (.seq
   (.seq
    (.reg [⟨(some 6), none, .mv (.t 0)⟩,
      ⟨(some 7), none, .len false (.t 6)⟩,
      ⟨(some 8), none, .mv (.t 1)⟩,
      ⟨(some 9), none, .len false (.t 8)⟩,
      ⟨(some 10), none, .bin .neq (.t 7) (.t 9)⟩])
    (.cond (.t 10)
     (.seq
      (.reg [⟨(some 4), none, .mv (.c (.bool false))⟩])
      .ret)
     .skip))
   (.seq
    (.seq
     (.reg [⟨(some 5), none, .mv (.c (.int .i64 0))⟩])
     (.block 0
      (.loop
       (.seq
        (.seq
         (.reg [⟨(some 11), none, .mv (.t 5)⟩,
           ⟨(some 12), none, .mv (.t 0)⟩,
           ⟨(some 13), none, .len false (.t 12)⟩,
           ⟨(some 14), none, .bin .lss (.t 11) (.t 13)⟩])
         (.cond (.t 14)
          .skip
          (.exit 0)))
        (.seq
         (.block 1
          (.seq
           (.dreg [] [⟨(some 17), none, .mv (.t 0)⟩,
             ⟨(some 18), none, .mv (.t 5)⟩,
             ⟨(some 19), none, .iaddr 1 (.t 17) (.t 18)⟩,
             ⟨(some 20), none, .load none (.t 19)⟩,
             ⟨(some 21), none, .mv (.t 1)⟩,
             ⟨(some 22), none, .mv (.t 5)⟩,
             ⟨(some 23), none, .iaddr 1 (.t 21) (.t 22)⟩,
             ⟨(some 24), none, .load none (.t 23)⟩,
             ⟨(some 25), none, .bin .neq (.t 20) (.t 24)⟩])
           (.cond (.t 25)
            (.seq
             (.reg [⟨(some 4), none, .mv (.c (.bool false))⟩])
             .ret)
            .skip)))
         (.reg [⟨(some 15), none, .take 5⟩,
           ⟨(some 16), none, .bin .add (.t 15) (.c (.int .i64 1))⟩,
           ⟨(some 5), none, .take 16⟩]))))))
    (.seq
     (.reg [⟨(some 4), none, .mv (.c (.bool true))⟩])
     .ret))))
def ar19 : List AR := [.t 4]
theorem comp19 : Try.f19.body.bind (comp Try.prog 26) = some ac19 := by kernel_rfl
theorem cres19 : compRes Try.prog Try.f19.results.toList = some ar19 := by kernel_rfl
/-- bilander/assign.Of -/
def ac20 : AC :=
 (.seq
  (.reg [⟨(some 6), none, .mv (.c .nils)⟩])
  (.seq
   (.reg [⟨(some 10), none, .mv (.t 0)⟩,
     ⟨(some 11), none, .call 12 [(.t 10)]⟩,
     ⟨(some 12), none, .mv (.t 2)⟩,
     ⟨(some 13), none, .call 42 [(.t 11), (.t 12)]⟩,
     ⟨(some 9), none, .take 13⟩,
     ⟨(some 14), none, .ext 9 0⟩,
     ⟨(some 15), none, .ext 9 1⟩,
     ⟨(some 7), none, .take 14⟩,
     ⟨(some 8), none, .take 15⟩])
   (.seq
    (.seq
     (.reg [⟨(some 16), none, .mv (.t 8)⟩,
       ⟨(some 17), none, .una .not (.t 16)⟩])
     (.cond (.t 17)
      (.seq
       (.reg [⟨(some 6), none, .mv (.c .nils)⟩])
       .ret)
      .skip))
    (.seq
     (.reg [⟨(some 18), none, .mv (.t 0)⟩,
       ⟨(some 19), none, .mv (.t 1)⟩,
       ⟨(some 20), none, .call 15 [(.t 18), (.t 19)]⟩,
       ⟨(some 21), none, .mv (.t 7)⟩,
       ⟨(some 22), none, .iaddr 1 (.t 20) (.t 21)⟩,
       ⟨(some 23), none, .load none (.t 22)⟩,
       ⟨(some 6), none, .take 23⟩])
     .ret))))
def ar20 : List AR := [.t 6]
theorem comp20 : Try.f20.body.bind (comp Try.prog 24) = some ac20 := by kernel_rfl
theorem cres20 : compRes Try.prog Try.f20.results.toList = some ar20 := by kernel_rfl
/-- bilander/bilanderref19.Of -/
def ac21 : AC :=
 (.seq
  (.reg [⟨(some 6), none, .mv (.c .nils)⟩])
  (.seq
   (.reg [⟨(some 9), none, .mv (.t 0)⟩,
     ⟨(some 10), none, .call 13 [(.t 9)]⟩,
     ⟨(some 7), none, .take 10⟩])
   (.seq
    (.seq
     (.reg [⟨(some 8), none, .mv (.c (.int .i64 0))⟩])
     (.block 0
      (.loop
       (.seq
        (.seq
         (.reg [⟨(some 11), none, .mv (.t 8)⟩,
           ⟨(some 12), none, .mv (.t 7)⟩,
           ⟨(some 13), none, .len false (.t 12)⟩,
           ⟨(some 14), none, .bin .lss (.t 11) (.t 13)⟩])
         (.cond (.t 14)
          .skip
          (.exit 0)))
        (.seq
         (.block 1
          (.seq
           (.reg [⟨(some 17), none, .mv (.t 7)⟩,
             ⟨(some 18), none, .mv (.t 8)⟩,
             ⟨(some 19), none, .iaddr 1 (.t 17) (.t 18)⟩,
             ⟨(some 20), none, .load none (.t 19)⟩,
             ⟨(some 21), none, .mv (.t 2)⟩,
             ⟨(some 22), none, .bin .eql (.t 20) (.t 21)⟩])
           (.cond (.t 22)
            (.seq
             (.reg [⟨(some 23), none, .mv (.t 0)⟩,
               ⟨(some 24), none, .mv (.t 1)⟩,
               ⟨(some 25), none, .call 16 [(.t 23), (.t 24)]⟩,
               ⟨(some 26), none, .mv (.t 8)⟩,
               ⟨(some 27), none, .iaddr 1 (.t 25) (.t 26)⟩,
               ⟨(some 28), none, .load none (.t 27)⟩,
               ⟨(some 6), none, .take 28⟩])
             .ret)
            .skip)))
         (.reg [⟨(some 15), none, .take 8⟩,
           ⟨(some 16), none, .bin .add (.t 15) (.c (.int .i64 1))⟩,
           ⟨(some 8), none, .take 16⟩]))))))
    (.seq
     (.reg [⟨(some 6), none, .mv (.c .nils)⟩])
     .ret))))
def ar21 : List AR := [.t 6]
theorem comp21 : Try.f21.body.bind (comp Try.prog 29) = some ac21 := by kernel_rfl
theorem cres21 : compRes Try.prog Try.f21.results.toList = some ar21 := by kernel_rfl
/-- bilander/bilanderlaw19.fair -/
def ac22 : AC :=
 (.seq
  (.reg [⟨(some 4), none, .mv (.c (.bool false))⟩])
  (.seq
   (.reg [⟨(some 10), none, .mv (.t 1)⟩,
     ⟨(some 11), none, .mks 1 8 [(.int .i64 0)] (.t 10)⟩,
     ⟨(some 5), none, .take 11⟩])
   (.seq
    (.seq
     (.reg [⟨(some 6), none, .mv (.c (.int .i64 0))⟩])
     (.block 0
      (.loop
       (.seq
        (.seq
         (.reg [⟨(some 12), none, .mv (.t 6)⟩,
           ⟨(some 13), none, .mv (.t 0)⟩,
           ⟨(some 14), none, .len false (.t 13)⟩,
           ⟨(some 15), none, .bin .lss (.t 12) (.t 14)⟩])
         (.cond (.t 15)
          .skip
          (.exit 0)))
        (.seq
         (.block 1
          (.seq
           (.seq
            (.reg [⟨(some 7), none, .mv (.c (.int .i64 0))⟩])
            (.block 2
             (.loop
              (.seq
               (.seq
                (.reg [⟨(some 18), none, .mv (.t 7)⟩,
                  ⟨(some 19), none, .mv (.t 0)⟩,
                  ⟨(some 20), none, .mv (.t 6)⟩,
                  ⟨(some 21), none, .iaddr 1 (.t 19) (.t 20)⟩,
                  ⟨(some 22), none, .load none (.t 21)⟩,
                  ⟨(some 23), none, .len false (.t 22)⟩,
                  ⟨(some 24), none, .bin .lss (.t 18) (.t 23)⟩])
                (.cond (.t 24)
                 .skip
                 (.exit 2)))
               (.seq
                (.block 3
                 (.seq
                  (.reg [⟨(some 27), none, .mv (.t 0)⟩,
                    ⟨(some 28), none, .mv (.t 6)⟩,
                    ⟨(some 29), none, .iaddr 1 (.t 27) (.t 28)⟩,
                    ⟨(some 30), none, .load none (.t 29)⟩,
                    ⟨(some 31), none, .mv (.t 7)⟩,
                    ⟨(some 32), none, .iaddr 1 (.t 30) (.t 31)⟩,
                    ⟨(some 33), none, .load none (.t 32)⟩,
                    ⟨(some 8), none, .take 33⟩])
                  (.seq
                   (.seq
                    (.reg [⟨(some 34), none, .mv (.t 8)⟩,
                      ⟨(some 35), none, .bin .lss (.t 34) (.c (.int .i64 0))⟩,
                      ⟨(some 36), none, .take 35⟩,
                      ⟨(some 37), (some (36, false)), .mv (.t 8)⟩,
                      ⟨(some 38), (some (36, false)), .mv (.t 1)⟩,
                      ⟨(some 39), (some (36, false)), .bin .geq (.t 37) (.t 38)⟩,
                      ⟨(some 40), none, .pick (.t 36) (.c (.bool true)) (.t 39)⟩,
                      ⟨(some 41), none, .take 40⟩,
                      ⟨(some 42), (some (41, false)), .mv (.t 7)⟩,
                      ⟨(some 43), (some (41, false)), .bin .gtr (.t 42) (.c (.int .i64 0))⟩,
                      ⟨(some 44), (some (41, false)), .take 43⟩,
                      ⟨(some 45), (some (44, true)), .mv (.t 0)⟩,
                      ⟨(some 46), (some (44, true)), .mv (.t 6)⟩,
                      ⟨(some 47), (some (44, true)), .iaddr 1 (.t 45) (.t 46)⟩,
                      ⟨(some 48), (some (44, true)), .load none (.t 47)⟩,
                      ⟨(some 49), (some (44, true)), .mv (.t 7)⟩,
                      ⟨(some 50), (some (44, true)), .bin .sub (.t 49) (.c (.int .i64 1))⟩,
                      ⟨(some 51), (some (44, true)), .iaddr 1 (.t 48) (.t 50)⟩,
                      ⟨(some 52), (some (44, true)), .load none (.t 51)⟩,
                      ⟨(some 53), (some (44, true)), .mv (.t 8)⟩,
                      ⟨(some 54), (some (44, true)), .bin .geq (.t 52) (.t 53)⟩,
                      ⟨(some 55), (some (41, false)), .pick (.t 44) (.t 54) (.c (.bool false))⟩,
                      ⟨(some 56), none, .pick (.t 41) (.c (.bool true)) (.t 55)⟩])
                    (.cond (.t 56)
                     (.seq
                      (.reg [⟨(some 4), none, .mv (.c (.bool false))⟩])
                      .ret)
                     .skip))
                   (.reg [⟨(some 57), none, .mv (.t 5)⟩,
                     ⟨(some 58), none, .mv (.t 8)⟩,
                     ⟨(some 59), none, .iaddr 1 (.t 57) (.t 58)⟩,
                     ⟨(some 60), none, .load none (.t 59)⟩,
                     ⟨(some 61), none, .bin .add (.t 60) (.c (.int .i64 1))⟩,
                     ⟨(some 62), none, .iaddr 1 (.t 57) (.t 58)⟩,
                     ⟨none, none, .store 1 (.t 62) (.t 61)⟩]))))
                (.reg [⟨(some 25), none, .take 7⟩,
                  ⟨(some 26), none, .bin .add (.t 25) (.c (.int .i64 1))⟩,
                  ⟨(some 7), none, .take 26⟩]))))))
           (.seq
            (.dreg [] [⟨(some 63), none, .mv (.t 0)⟩,
              ⟨(some 64), none, .mv (.t 6)⟩,
              ⟨(some 65), none, .iaddr 1 (.t 63) (.t 64)⟩,
              ⟨(some 66), none, .load none (.t 65)⟩,
              ⟨(some 67), none, .len false (.t 66)⟩,
              ⟨(some 68), none, .mv (.t 0)⟩,
              ⟨(some 69), none, .iaddr 1 (.t 68) (.c (.int .i64 0))⟩,
              ⟨(some 70), none, .load none (.t 69)⟩,
              ⟨(some 71), none, .len false (.t 70)⟩,
              ⟨(some 72), none, .bin .gtr (.t 67) (.t 71)⟩,
              ⟨(some 73), none, .mv (.t 72)⟩,
              ⟨(some 74), (some (73, false)), .mv (.t 0)⟩,
              ⟨(some 75), (some (73, false)), .mv (.t 6)⟩,
              ⟨(some 76), (some (73, false)), .iaddr 1 (.t 74) (.t 75)⟩,
              ⟨(some 77), (some (73, false)), .load none (.t 76)⟩,
              ⟨(some 78), (some (73, false)), .len false (.t 77)⟩,
              ⟨(some 79), (some (73, false)), .bin .add (.t 78) (.c (.int .i64 1))⟩,
              ⟨(some 80), (some (73, false)), .mv (.t 0)⟩,
              ⟨(some 81), (some (73, false)), .iaddr 1 (.t 80) (.c (.int .i64 0))⟩,
              ⟨(some 82), (some (73, false)), .load none (.t 81)⟩,
              ⟨(some 83), (some (73, false)), .len false (.t 82)⟩,
              ⟨(some 84), (some (73, false)), .bin .lss (.t 79) (.t 83)⟩,
              ⟨(some 85), none, .pick (.t 73) (.c (.bool true)) (.t 84)⟩])
            (.cond (.t 85)
             (.seq
              (.reg [⟨(some 4), none, .mv (.c (.bool false))⟩])
              .ret)
             .skip))))
         (.reg [⟨(some 16), none, .take 6⟩,
           ⟨(some 17), none, .bin .add (.t 16) (.c (.int .i64 1))⟩,
           ⟨(some 6), none, .take 17⟩]))))))
    (.seq
     (.seq
      (.reg [⟨(some 9), none, .mv (.c (.int .i64 0))⟩])
      (.block 4
       (.loop
        (.seq
         (.seq
          (.reg [⟨(some 86), none, .mv (.t 9)⟩,
            ⟨(some 87), none, .mv (.t 1)⟩,
            ⟨(some 88), none, .bin .lss (.t 86) (.t 87)⟩])
          (.cond (.t 88)
           .skip
           (.exit 4)))
         (.seq
          (.block 5
           (.seq
            (.reg [⟨(some 91), none, .mv (.t 5)⟩,
              ⟨(some 92), none, .mv (.t 9)⟩,
              ⟨(some 93), none, .iaddr 1 (.t 91) (.t 92)⟩,
              ⟨(some 94), none, .load none (.t 93)⟩,
              ⟨(some 95), none, .bin .neq (.t 94) (.c (.int .i64 1))⟩])
            (.cond (.t 95)
             (.seq
              (.reg [⟨(some 4), none, .mv (.c (.bool false))⟩])
              .ret)
             .skip)))
          (.reg [⟨(some 89), none, .take 9⟩,
            ⟨(some 90), none, .bin .add (.t 89) (.c (.int .i64 1))⟩,
            ⟨(some 9), none, .take 90⟩]))))))
     (.seq
      (.reg [⟨(some 4), none, .mv (.c (.bool true))⟩])
      .ret)))))
def ar22 : List AR := [.t 4]
theorem comp22 : Try.f22.body.bind (comp Try.prog 96) = some ac22 := by kernel_rfl
theorem cres22 : compRes Try.prog Try.f22.results.toList = some ar22 := by kernel_rfl
/-- slices.Clone[[]string,string] -/
def ac37 : AC :=
 (.seq
  (.reg [⟨(some 2), none, .mv (.c .nils)⟩])
  (.seq
   (.seq
    (.reg [⟨(some 3), none, .mv (.t 0)⟩,
      ⟨(some 4), none, .eqn true false (.t 3)⟩])
    (.cond (.t 4)
     (.seq
      (.reg [⟨(some 2), none, .mv (.c .nils)⟩])
      .ret)
     .skip))
   (.seq
    (.reg [⟨(some 5), none, .bsl 1 0 [(.str (ByteArray.mk #[]))] []⟩,
      ⟨(some 6), none, .mv (.t 0)⟩,
      ⟨(some 7), none, .app 1 16 5 (.t 6)⟩,
      ⟨(some 2), none, .take 7⟩])
    .ret)))
def ar37 : List AR := [.t 2]
theorem comp37 : Try.f37.body.bind (comp Try.prog 8) = some ac37 := by kernel_rfl
theorem cres37 : compRes Try.prog Try.f37.results.toList = some ar37 := by kernel_rfl
/-- bilander/assign.many -/
def ac40 : AC :=
 (.seq
  (.reg [⟨(some 2), none, .mv (.c (.int .i64 0))⟩])
  (.seq
   (.reg [⟨(some 3), none, .mv (.t 0)⟩,
     ⟨(some 4), none, .minmax false (.t 3) (.c (.int .i64 1000))⟩,
     ⟨(some 5), none, .minmax true (.c (.int .i64 0)) (.t 4)⟩,
     ⟨(some 2), none, .take 5⟩])
   .ret))
def ar40 : List AR := [.t 2]
theorem comp40 : Try.f40.body.bind (comp Try.prog 6) = some ac40 := by kernel_rfl
theorem cres40 : compRes Try.prog Try.f40.results.toList = some ar40 := by kernel_rfl
/-- bilander/bilanderref19.from -/
def ac41 : AC :=
 (.seq
  (.reg [⟨(some 8), none, .mv (.c .nils)⟩])
  (.seq
   (.reg [⟨(some 9), none, .mv (.c .nils)⟩])
   (.seq
    (.block 0
     (.loop
      (.seq
       (.seq
        (.reg [⟨(some 10), none, .mv (.t 9)⟩,
          ⟨(some 11), none, .len false (.t 10)⟩,
          ⟨(some 12), none, .mv (.t 3)⟩,
          ⟨(some 13), none, .bin .lss (.t 11) (.t 12)⟩,
          ⟨(some 14), none, .take 13⟩,
          ⟨(some 15), (some (14, true)), .mv (.t 0)⟩,
          ⟨(some 16), (some (14, true)), .mv (.t 2)⟩,
          ⟨(some 17), (some (14, true)), .bin .lss (.t 15) (.t 16)⟩,
          ⟨(some 18), none, .pick (.t 14) (.t 17) (.c (.bool false))⟩])
        (.cond (.t 18)
         .skip
         (.exit 0)))
       (.block 1
        (.seq
         (.reg [⟨(some 19), none, .take 9⟩,
           ⟨(some 20), none, .mv (.t 0)⟩,
           ⟨(some 21), none, .bsl 1 1 [(.int .i64 0)] [(0, (.t 20))]⟩,
           ⟨(some 22), none, .app 1 8 19 (.t 21)⟩,
           ⟨(some 9), none, .take 22⟩])
         (.reg [⟨(some 23), none, .take 0⟩,
           ⟨(some 24), none, .mv (.t 1)⟩,
           ⟨(some 25), none, .bin .add (.t 23) (.t 24)⟩,
           ⟨(some 0), none, .take 25⟩]))))))
    (.seq
     (.reg [⟨(some 26), none, .take 9⟩,
       ⟨(some 8), none, .take 26⟩])
     .ret))))
def ar41 : List AR := [.t 8]
theorem comp41 : Try.f41.body.bind (comp Try.prog 27) = some ac41 := by kernel_rfl
theorem cres41 : compRes Try.prog Try.f41.results.toList = some ar41 := by kernel_rfl
/-- slices.BinarySearch[[]string,string] -/
def ac42 : AC :=
 (.seq
  (.reg [⟨(some 4), none, .mv (.c (.int .i64 0))⟩,
    ⟨(some 5), none, .mv (.c (.bool false))⟩])
  (.seq
   (.reg [⟨(some 10), none, .mv (.t 0)⟩,
     ⟨(some 11), none, .len false (.t 10)⟩,
     ⟨(some 6), none, .take 11⟩])
   (.seq
    (.reg [⟨(some 12), none, .take 6⟩,
      ⟨(some 7), none, .mv (.c (.int .i64 0))⟩,
      ⟨(some 8), none, .take 12⟩])
    (.seq
     (.block 0
      (.loop
       (.seq
        (.seq
         (.reg [⟨(some 13), none, .mv (.t 7)⟩,
           ⟨(some 14), none, .mv (.t 8)⟩,
           ⟨(some 15), none, .bin .lss (.t 13) (.t 14)⟩])
         (.cond (.t 15)
          .skip
          (.exit 0)))
        (.block 1
         (.seq
          (.reg [⟨(some 16), none, .mv (.t 7)⟩,
            ⟨(some 17), none, .mv (.t 8)⟩,
            ⟨(some 18), none, .bin .add (.t 16) (.t 17)⟩,
            ⟨(some 19), none, .conv .u64 (.t 18)⟩,
            ⟨(some 20), none, .bin .shr (.t 19) (.c (.int .u64 1))⟩,
            ⟨(some 21), none, .conv .i64 (.t 20)⟩,
            ⟨(some 9), none, .take 21⟩])
          (.seq
           (.reg [⟨(some 22), none, .mv (.t 0)⟩,
             ⟨(some 23), none, .mv (.t 9)⟩,
             ⟨(some 24), none, .iaddr 1 (.t 22) (.t 23)⟩,
             ⟨(some 25), none, .load none (.t 24)⟩,
             ⟨(some 26), none, .mv (.t 1)⟩,
             ⟨(some 27), none, .call 68 [(.t 25), (.t 26)]⟩])
           (.cond (.t 27)
            (.reg [⟨(some 28), none, .mv (.t 9)⟩,
              ⟨(some 29), none, .bin .add (.t 28) (.c (.int .i64 1))⟩,
              ⟨(some 7), none, .take 29⟩])
            (.reg [⟨(some 30), none, .take 9⟩,
              ⟨(some 8), none, .take 30⟩]))))))))
     (.seq
      (.reg [⟨(some 31), none, .take 7⟩,
        ⟨(some 32), none, .mv (.t 7)⟩,
        ⟨(some 33), none, .mv (.t 6)⟩,
        ⟨(some 34), none, .bin .lss (.t 32) (.t 33)⟩,
        ⟨(some 35), none, .take 34⟩,
        ⟨(some 36), (some (35, true)), .mv (.t 0)⟩,
        ⟨(some 37), (some (35, true)), .mv (.t 7)⟩,
        ⟨(some 38), (some (35, true)), .iaddr 1 (.t 36) (.t 37)⟩,
        ⟨(some 39), (some (35, true)), .load none (.t 38)⟩,
        ⟨(some 40), (some (35, true)), .mv (.t 1)⟩,
        ⟨(some 41), (some (35, true)), .bin .eql (.t 39) (.t 40)⟩,
        ⟨(some 42), (some (35, true)), .take 41⟩,
        ⟨(some 43), (some (42, false)), .mv (.t 0)⟩,
        ⟨(some 44), (some (42, false)), .mv (.t 7)⟩,
        ⟨(some 45), (some (42, false)), .iaddr 1 (.t 43) (.t 44)⟩,
        ⟨(some 46), (some (42, false)), .load none (.t 45)⟩,
        ⟨(some 47), (some (42, false)), .call 69 [(.t 46)]⟩,
        ⟨(some 48), (some (42, false)), .take 47⟩,
        ⟨(some 49), (some (48, true)), .mv (.t 1)⟩,
        ⟨(some 50), (some (48, true)), .call 69 [(.t 49)]⟩,
        ⟨(some 51), (some (42, false)), .pick (.t 48) (.t 50) (.c (.bool false))⟩,
        ⟨(some 52), (some (35, true)), .pick (.t 42) (.c (.bool true)) (.t 51)⟩,
        ⟨(some 53), none, .pick (.t 35) (.t 52) (.c (.bool false))⟩,
        ⟨(some 4), none, .take 31⟩,
        ⟨(some 5), none, .take 53⟩])
      .ret)))))
def ar42 : List AR := [.t 4, .t 5]
theorem comp42 : Try.f42.body.bind (comp Try.prog 54) = some ac42 := by kernel_rfl
theorem cres42 : compRes Try.prog Try.f42.results.toList = some ar42 := by kernel_rfl
/-- cmp.Less[string] -/
def ac68 : AC :=
 (.seq
  (.reg [⟨(some 4), none, .mv (.c (.bool false))⟩])
  (.seq
   (.reg [⟨(some 5), none, .mv (.t 0)⟩,
     ⟨(some 6), none, .call 94 [(.t 5)]⟩,
     ⟨(some 7), none, .take 6⟩,
     ⟨(some 8), (some (7, true)), .mv (.t 1)⟩,
     ⟨(some 9), (some (7, true)), .call 94 [(.t 8)]⟩,
     ⟨(some 10), (some (7, true)), .una .not (.t 9)⟩,
     ⟨(some 11), none, .pick (.t 7) (.t 10) (.c (.bool false))⟩,
     ⟨(some 12), none, .take 11⟩,
     ⟨(some 13), (some (12, false)), .mv (.t 0)⟩,
     ⟨(some 14), (some (12, false)), .mv (.t 1)⟩,
     ⟨(some 15), (some (12, false)), .bin .lss (.t 13) (.t 14)⟩,
     ⟨(some 16), none, .pick (.t 12) (.c (.bool true)) (.t 15)⟩,
     ⟨(some 4), none, .take 16⟩])
   .ret))
def ar68 : List AR := [.t 4]
theorem comp68 : Try.f68.body.bind (comp Try.prog 17) = some ac68 := by kernel_rfl
theorem cres68 : compRes Try.prog Try.f68.results.toList = some ar68 := by kernel_rfl
/-- slices.isNaN[string] -/
def ac69 : AC :=
 (.seq
  (.reg [⟨(some 2), none, .mv (.c (.bool false))⟩])
  (.seq
   (.reg [⟨(some 3), none, .mv (.t 0)⟩,
     ⟨(some 4), none, .mv (.t 0)⟩,
     ⟨(some 5), none, .bin .neq (.t 3) (.t 4)⟩,
     ⟨(some 2), none, .take 5⟩])
   .ret))
def ar69 : List AR := [.t 2]
theorem comp69 : Try.f69.body.bind (comp Try.prog 6) = some ac69 := by kernel_rfl
theorem cres69 : compRes Try.prog Try.f69.results.toList = some ar69 := by kernel_rfl
/-- cmp.isNaN[string] -/
def ac94 : AC :=
 (.seq
  (.reg [⟨(some 2), none, .mv (.c (.bool false))⟩])
  (.seq
   (.reg [⟨(some 3), none, .mv (.t 0)⟩,
     ⟨(some 4), none, .mv (.t 0)⟩,
     ⟨(some 5), none, .bin .neq (.t 3) (.t 4)⟩,
     ⟨(some 2), none, .take 5⟩])
   .ret))
def ar94 : List AR := [.t 2]
theorem comp94 : Try.f94.body.bind (comp Try.prog 6) = some ac94 := by kernel_rfl
theorem cres94 : compRes Try.prog Try.f94.results.toList = some ar94 := by kernel_rfl
end Go.Proofs.Ytmfkliabjfngmaa
