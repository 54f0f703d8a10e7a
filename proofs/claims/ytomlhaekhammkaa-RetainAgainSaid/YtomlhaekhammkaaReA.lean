import Derived.Test.YtomlhaekhammkaaAvRf
import Derived.Test.YtomlhaekhammkaaProg
import Derived.KernelRfl

set_option maxRecDepth 100000
namespace Go.Proofs.Ytomlhaekhammkaa
open Go.Av
/-- bilander/bilanderlaw16.RetainStays -/
def ac3 : AC :=
 (.seq
  (.reg [⟨(some 4), none, .box 2 (.t 1)⟩,
    ⟨(some 6), none, .mv (.c (.bool false))⟩])
  (.seq
   (.seq
    (.reg [⟨(some 12), none, .mv (.t 0)⟩,
      ⟨(some 13), none, .len false (.t 12)⟩,
      ⟨(some 14), none, .bin .gtr (.t 13) (.c (.int .i64 60))⟩])
    (.cond (.t 14)
     (.seq
      (.reg [⟨(some 15), none, .call 13 []⟩,
        ⟨(some 6), none, .take 15⟩])
      .ret)
     .skip))
   (.seq
    (.dreg [] [⟨(some 16), none, .mv (.t 0)⟩,
      ⟨(some 17), none, .call 14 [(.t 16)]⟩,
      ⟨(some 18), none, .load (some 2) (.t 4)⟩,
      ⟨(some 8), none, .alloc [(.int .i64 0), (.int .i64 0)]⟩,
      ⟨(some 7), none, .take 17⟩,
      ⟨none, none, .store 2 (.t 8) (.t 18)⟩])
    (.seq
     (.reg [⟨(some 19), none, .mv (.t 7)⟩,
       ⟨(some 20), none, .load (some 2) (.t 8)⟩,
       ⟨(some 21), none, .mv (.t 2)⟩,
       ⟨(some 22), none, .call 15 [(.t 19), (.t 20), (.t 21)]⟩,
       ⟨(some 9), none, .take 22⟩])
     (.seq
      (.seq
       (.reg [⟨(some 23), none, .mv (.t 0)⟩,
         ⟨(some 24), none, .len false (.t 23)⟩,
         ⟨(some 25), none, .bin .eql (.t 24) (.c (.int .i64 0))⟩])
       (.cond (.t 25)
        (.seq
         (.reg [⟨(some 26), none, .mv (.t 9)⟩,
           ⟨(some 27), none, .bin .eql (.t 26) (.c (.int .i64 0))⟩,
           ⟨(some 28), none, .take 27⟩,
           ⟨(some 29), (some (28, true)), .call 13 []⟩,
           ⟨(some 30), none, .pick (.t 28) (.t 29) (.c (.bool false))⟩,
           ⟨(some 6), none, .take 30⟩])
         .ret)
        .skip))
      (.seq
       (.seq
        (.reg [⟨(some 31), none, .mv (.t 9)⟩,
          ⟨(some 32), none, .bin .lss (.t 31) (.c (.int .i64 0))⟩,
          ⟨(some 33), none, .take 32⟩,
          ⟨(some 34), (some (33, false)), .mv (.t 9)⟩,
          ⟨(some 35), (some (33, false)), .mv (.t 0)⟩,
          ⟨(some 36), (some (33, false)), .len false (.t 35)⟩,
          ⟨(some 37), (some (33, false)), .bin .geq (.t 34) (.t 36)⟩,
          ⟨(some 38), none, .pick (.t 33) (.c (.bool true)) (.t 37)⟩])
        (.cond (.t 38)
         (.seq
          (.reg [⟨(some 6), none, .mv (.c (.bool false))⟩])
          .ret)
         .skip))
       (.seq
        (.seq
         (.reg [⟨(some 10), none, .mv (.c (.int .i64 0))⟩])
         (.block 0
          (.loop
           (.seq
            (.seq
             (.reg [⟨(some 39), none, .mv (.t 10)⟩,
               ⟨(some 40), none, .mv (.t 9)⟩,
               ⟨(some 41), none, .bin .leq (.t 39) (.t 40)⟩])
             (.cond (.t 41)
              .skip
              (.exit 0)))
            (.seq
             (.block 1
              (.seq
               (.dreg [] [⟨(some 44), none, .mv (.t 7)⟩,
                 ⟨(some 45), none, .mv (.t 10)⟩,
                 ⟨(some 46), none, .iaddr 4 (.t 44) (.t 45)⟩,
                 ⟨(some 47), none, .load (some 4) (.t 46)⟩,
                 ⟨(some 48), none, .load (some 2) (.t 8)⟩,
                 ⟨(some 49), none, .mv (.t 2)⟩,
                 ⟨(some 50), none, .call 16 [(.t 47), (.t 48), (.t 49)]⟩,
                 ⟨(some 51), none, .mv (.t 50)⟩,
                 ⟨(some 52), (some (51, false)), .faddr (.t 4) 1⟩,
                 ⟨(some 53), (some (51, false)), .load none (.t 52)⟩,
                 ⟨(some 54), (some (51, false)), .bin .geq (.t 53) (.c (.int .i64 0))⟩,
                 ⟨(some 55), (some (51, false)), .mv (.t 54)⟩,
                 ⟨(some 56), (some (55, true)), .mv (.t 7)⟩,
                 ⟨(some 57), (some (55, true)), .mv (.t 10)⟩,
                 ⟨(some 58), (some (55, true)), .slc false 4 (.t 56) (some (.t 57)) none⟩,
                 ⟨(some 59), (some (55, true)), .call 17 [(.t 58)]⟩,
                 ⟨(some 60), (some (55, true)), .faddr (.t 4) 1⟩,
                 ⟨(some 61), (some (55, true)), .load none (.t 60)⟩,
                 ⟨(some 62), (some (55, true)), .bin .gtr (.t 59) (.t 61)⟩,
                 ⟨(some 63), (some (51, false)), .pick (.t 55) (.t 62) (.c (.bool false))⟩,
                 ⟨(some 64), none, .pick (.t 51) (.c (.bool true)) (.t 63)⟩,
                 ⟨(some 11), none, .take 64⟩])
               (.seq
                (.reg [⟨(some 65), none, .mv (.t 10)⟩,
                  ⟨(some 66), none, .mv (.t 9)⟩,
                  ⟨(some 67), none, .bin .lss (.t 65) (.t 66)⟩,
                  ⟨(some 68), none, .take 67⟩,
                  ⟨(some 69), (some (68, true)), .mv (.t 11)⟩,
                  ⟨(some 70), (some (68, true)), .una .not (.t 69)⟩,
                  ⟨(some 71), none, .pick (.t 68) (.t 70) (.c (.bool false))⟩,
                  ⟨(some 72), none, .take 71⟩,
                  ⟨(some 73), (some (72, false)), .mv (.t 10)⟩,
                  ⟨(some 74), (some (72, false)), .mv (.t 9)⟩,
                  ⟨(some 75), (some (72, false)), .bin .eql (.t 73) (.t 74)⟩,
                  ⟨(some 76), (some (72, false)), .take 75⟩,
                  ⟨(some 77), (some (76, true)), .mv (.t 11)⟩,
                  ⟨(some 78), (some (72, false)), .pick (.t 76) (.t 77) (.c (.bool false))⟩,
                  ⟨(some 79), (some (72, false)), .take 78⟩,
                  ⟨(some 80), (some (79, true)), .mv (.t 9)⟩,
                  ⟨(some 81), (some (79, true)), .mv (.t 0)⟩,
                  ⟨(some 82), (some (79, true)), .len false (.t 81)⟩,
                  ⟨(some 83), (some (79, true)), .bin .sub (.t 82) (.c (.int .i64 1))⟩,
                  ⟨(some 84), (some (79, true)), .bin .neq (.t 80) (.t 83)⟩,
                  ⟨(some 85), (some (72, false)), .pick (.t 79) (.t 84) (.c (.bool false))⟩,
                  ⟨(some 86), none, .pick (.t 72) (.c (.bool true)) (.t 85)⟩])
                (.cond (.t 86)
                 (.seq
                  (.reg [⟨(some 6), none, .mv (.c (.bool false))⟩])
                  .ret)
                 .skip))))
             (.reg [⟨(some 42), none, .take 10⟩,
               ⟨(some 43), none, .bin .add (.t 42) (.c (.int .i64 1))⟩,
               ⟨(some 10), none, .take 43⟩]))))))
        (.seq
         (.reg [⟨(some 87), none, .call 13 []⟩,
           ⟨(some 6), none, .take 87⟩])
         .ret))))))))
def ar3 : List AR := [.t 6]
theorem comp3 : Try.f3.body.bind (comp Try.prog 88) = some ac3 := by kernel_rfl
theorem cres3 : compRes Try.prog Try.f3.results.toList = some ar3 := by kernel_rfl
/-- bilander/bilanderlaw16.RetainAgain -/
def ac4 : AC :=
 (.seq
  (.reg [⟨(some 4), none, .box 2 (.t 1)⟩,
    ⟨(some 5), none, .box 2 (.t 2)⟩,
    ⟨(some 6), none, .mv (.c (.bool false))⟩])
  (.seq
   (.seq
    (.reg [⟨(some 13), none, .mv (.t 0)⟩,
      ⟨(some 14), none, .len false (.t 13)⟩,
      ⟨(some 15), none, .bin .gtr (.t 14) (.c (.int .i64 60))⟩])
    (.cond (.t 15)
     (.seq
      (.reg [⟨(some 16), none, .call 13 []⟩,
        ⟨(some 6), none, .take 16⟩])
      .ret)
     .skip))
   (.seq
    (.dreg [] [⟨(some 17), none, .mv (.t 0)⟩,
      ⟨(some 18), none, .call 14 [(.t 17)]⟩,
      ⟨(some 19), none, .load (some 2) (.t 4)⟩,
      ⟨(some 8), none, .alloc [(.int .i64 0), (.int .i64 0)]⟩,
      ⟨(some 7), none, .take 18⟩,
      ⟨none, none, .store 2 (.t 8) (.t 19)⟩])
    (.seq
     (.reg [⟨(some 20), none, .mv (.t 7)⟩,
       ⟨(some 21), none, .load (some 2) (.t 8)⟩,
       ⟨(some 22), none, .iaddrA 2 1 (.t 5) (.c (.int .i64 0))⟩,
       ⟨(some 23), none, .load none (.t 22)⟩,
       ⟨(some 24), none, .call 15 [(.t 20), (.t 21), (.t 23)]⟩,
       ⟨(some 9), none, .take 24⟩])
     (.seq
      (.seq
       (.reg [⟨(some 25), none, .mv (.t 9)⟩,
         ⟨(some 26), none, .bin .lss (.t 25) (.c (.int .i64 0))⟩,
         ⟨(some 27), none, .take 26⟩,
         ⟨(some 28), (some (27, false)), .mv (.t 9)⟩,
         ⟨(some 29), (some (27, false)), .mv (.t 0)⟩,
         ⟨(some 30), (some (27, false)), .len false (.t 29)⟩,
         ⟨(some 31), (some (27, false)), .bin .gtr (.t 28) (.t 30)⟩,
         ⟨(some 32), none, .pick (.t 27) (.c (.bool true)) (.t 31)⟩])
       (.cond (.t 32)
        (.seq
         (.reg [⟨(some 6), none, .mv (.c (.bool false))⟩])
         .ret)
        .skip))
      (.seq
       (.dreg [] [⟨(some 33), none, .iaddrA 2 1 (.t 5) (.c (.int .i64 0))⟩,
         ⟨(some 34), none, .load none (.t 33)⟩,
         ⟨(some 35), none, .iaddrA 2 1 (.t 5) (.c (.int .i64 1))⟩,
         ⟨(some 36), none, .load none (.t 35)⟩,
         ⟨(some 37), none, .minmax false (.t 34) (.t 36)⟩,
         ⟨(some 38), none, .iaddrA 2 1 (.t 5) (.c (.int .i64 0))⟩,
         ⟨(some 39), none, .load none (.t 38)⟩,
         ⟨(some 40), none, .iaddrA 2 1 (.t 5) (.c (.int .i64 1))⟩,
         ⟨(some 41), none, .load none (.t 40)⟩,
         ⟨(some 42), none, .minmax true (.t 39) (.t 41)⟩,
         ⟨(some 10), none, .take 37⟩,
         ⟨(some 11), none, .take 42⟩])
       (.seq
        (.reg [⟨(some 43), none, .load (some 2) (.t 8)⟩,
          ⟨(some 12), none, .alloc [(.int .i64 0), (.int .i64 0)]⟩,
          ⟨none, none, .store 2 (.t 12) (.t 43)⟩])
        (.seq
         (.seq
          (.reg [⟨(some 44), none, .faddr (.t 12) 1⟩,
            ⟨(some 45), none, .load none (.t 44)⟩,
            ⟨(some 46), none, .bin .gtr (.t 45) (.c (.int .i64 0))⟩])
          (.cond (.t 46)
           (.reg [⟨(some 47), none, .faddr (.t 12) 1⟩,
             ⟨(some 48), none, .load none (.t 47)⟩,
             ⟨(some 49), none, .bin .sub (.t 48) (.c (.int .i64 1))⟩,
             ⟨(some 50), none, .faddr (.t 12) 1⟩,
             ⟨none, none, .store 1 (.t 50) (.t 49)⟩])
           .skip))
         (.seq
          (.seq
           (.reg [⟨(some 51), none, .faddr (.t 12) 0⟩,
             ⟨(some 52), none, .load none (.t 51)⟩,
             ⟨(some 53), none, .bin .gtr (.t 52) (.c (.int .i64 0))⟩])
           (.cond (.t 53)
            (.reg [⟨(some 54), none, .faddr (.t 12) 0⟩,
              ⟨(some 55), none, .load none (.t 54)⟩,
              ⟨(some 56), none, .bin .sub (.t 55) (.c (.int .i64 1))⟩,
              ⟨(some 57), none, .faddr (.t 12) 0⟩,
              ⟨none, none, .store 1 (.t 57) (.t 56)⟩])
            .skip))
          (.seq
           (.dreg [] [⟨(some 58), none, .mv (.t 7)⟩,
             ⟨(some 59), none, .mv (.t 9)⟩,
             ⟨(some 60), none, .slc false 4 (.t 58) (some (.t 59)) none⟩,
             ⟨(some 61), none, .load (some 2) (.t 8)⟩,
             ⟨(some 62), none, .iaddrA 2 1 (.t 5) (.c (.int .i64 0))⟩,
             ⟨(some 63), none, .load none (.t 62)⟩,
             ⟨(some 64), none, .call 15 [(.t 60), (.t 61), (.t 63)]⟩,
             ⟨(some 65), none, .bin .eql (.t 64) (.c (.int .i64 0))⟩,
             ⟨(some 66), none, .mv (.t 65)⟩,
             ⟨(some 67), (some (66, true)), .mv (.t 7)⟩,
             ⟨(some 68), (some (66, true)), .load (some 2) (.t 8)⟩,
             ⟨(some 69), (some (66, true)), .mv (.t 10)⟩,
             ⟨(some 70), (some (66, true)), .call 15 [(.t 67), (.t 68), (.t 69)]⟩,
             ⟨(some 71), (some (66, true)), .mv (.t 7)⟩,
             ⟨(some 72), (some (66, true)), .load (some 2) (.t 8)⟩,
             ⟨(some 73), (some (66, true)), .mv (.t 11)⟩,
             ⟨(some 74), (some (66, true)), .call 15 [(.t 71), (.t 72), (.t 73)]⟩,
             ⟨(some 75), (some (66, true)), .bin .leq (.t 70) (.t 74)⟩,
             ⟨(some 76), none, .pick (.t 66) (.t 75) (.c (.bool false))⟩,
             ⟨(some 77), none, .mv (.t 76)⟩,
             ⟨(some 78), (some (77, true)), .mv (.t 7)⟩,
             ⟨(some 79), (some (77, true)), .load (some 2) (.t 12)⟩,
             ⟨(some 80), (some (77, true)), .iaddrA 2 1 (.t 5) (.c (.int .i64 0))⟩,
             ⟨(some 81), (some (77, true)), .load none (.t 80)⟩,
             ⟨(some 82), (some (77, true)), .call 15 [(.t 78), (.t 79), (.t 81)]⟩,
             ⟨(some 83), (some (77, true)), .mv (.t 9)⟩,
             ⟨(some 84), (some (77, true)), .bin .geq (.t 82) (.t 83)⟩,
             ⟨(some 85), none, .pick (.t 77) (.t 84) (.c (.bool false))⟩,
             ⟨(some 86), none, .mv (.t 85)⟩,
             ⟨(some 87), (some (86, true)), .call 13 []⟩,
             ⟨(some 88), none, .pick (.t 86) (.t 87) (.c (.bool false))⟩,
             ⟨(some 6), none, .take 88⟩])
           .ret))))))))))
def ar4 : List AR := [.t 6]
theorem comp4 : Try.f4.body.bind (comp Try.prog 89) = some ac4 := by kernel_rfl
theorem cres4 : compRes Try.prog Try.f4.results.toList = some ar4 := by kernel_rfl
/-- bilander/bilanderlaw16.awake -/
def ac13 : AC :=
 (.seq
  (.reg [⟨(some 0), none, .mv (.c (.bool false))⟩])
  (.seq
   (.reg [⟨(some 4), none, .build [(.int .i64 0), (.int .i64 0), (.int .i64 0), (.int .i64 0)] [(0, 1, (.c (.int .i64 1))), (2, 1, (.c (.int .i64 5))), (3, 1, (.c (.int .i64 10)))]⟩,
     ⟨(some 5), none, .build [(.int .i64 0), (.int .i64 0), (.int .i64 0), (.int .i64 0)] [(0, 1, (.c (.int .i64 4))), (2, 1, (.c (.int .i64 9))), (3, 1, (.c (.int .i64 10)))]⟩,
     ⟨(some 6), none, .build [(.int .i64 0), (.int .i64 0), (.int .i64 0), (.int .i64 0)] [(0, 1, (.c (.int .i64 7))), (2, 1, (.c (.int .i64 9))), (3, 1, (.c (.int .i64 10)))]⟩,
     ⟨(some 7), none, .bsl 4 3 [(.int .i64 0), (.int .i64 0), (.int .i64 0), (.int .i64 0)] [(0, (.t 4)), (1, (.t 5)), (2, (.t 6))]⟩,
     ⟨(some 1), none, .take 7⟩])
   (.seq
    (.reg [⟨(some 9), none, .mv (.t 1)⟩,
      ⟨(some 10), none, .call 45 [(.t 9), (.c (.int .i64 1))]⟩,
      ⟨(some 8), none, .take 10⟩,
      ⟨(some 11), none, .ext 8 0⟩,
      ⟨(some 12), none, .ext 8 1⟩,
      ⟨(some 2), none, .take 11⟩,
      ⟨(some 3), none, .take 12⟩])
    (.seq
     (.reg [⟨(some 13), none, .mv (.t 1)⟩,
       ⟨(some 14), none, .build [(.int .i64 0), (.int .i64 0)] [(0, 1, (.c (.int .i64 (-1)))), (1, 1, (.c (.int .i64 25)))]⟩,
       ⟨(some 15), none, .call 15 [(.t 13), (.t 14), (.c (.int .i64 0))]⟩,
       ⟨(some 16), none, .bin .eql (.t 15) (.c (.int .i64 1))⟩,
       ⟨(some 17), none, .take 16⟩,
       ⟨(some 18), (some (17, true)), .mv (.t 1)⟩,
       ⟨(some 19), (some (17, true)), .build [(.int .i64 0), (.int .i64 0)] [(0, 1, (.c (.int .i64 4))), (1, 1, (.c (.int .i64 (-1))))]⟩,
       ⟨(some 20), (some (17, true)), .call 15 [(.t 18), (.t 19), (.c (.int .i64 14))]⟩,
       ⟨(some 21), (some (17, true)), .bin .eql (.t 20) (.c (.int .i64 2))⟩,
       ⟨(some 22), none, .pick (.t 17) (.t 21) (.c (.bool false))⟩,
       ⟨(some 23), none, .take 22⟩,
       ⟨(some 24), (some (23, true)), .mv (.t 1)⟩,
       ⟨(some 25), (some (23, true)), .build [(.int .i64 0), (.int .i64 0)] [(0, 1, (.c (.int .i64 3))), (1, 1, (.c (.int .i64 (-1))))]⟩,
       ⟨(some 26), (some (23, true)), .call 15 [(.t 24), (.t 25), (.c (.int .i64 9))]⟩,
       ⟨(some 27), (some (23, true)), .bin .eql (.t 26) (.c (.int .i64 1))⟩,
       ⟨(some 28), none, .pick (.t 23) (.t 27) (.c (.bool false))⟩,
       ⟨(some 29), none, .take 28⟩,
       ⟨(some 30), (some (29, true)), .mv (.t 1)⟩,
       ⟨(some 31), (some (29, true)), .build [(.int .i64 0), (.int .i64 0)] [(0, 1, (.c (.int .i64 (-1)))), (1, 1, (.c (.int .i64 (-1))))]⟩,
       ⟨(some 32), (some (29, true)), .call 15 [(.t 30), (.t 31), (.c (.int .i64 99))]⟩,
       ⟨(some 33), (some (29, true)), .bin .eql (.t 32) (.c (.int .i64 0))⟩,
       ⟨(some 34), none, .pick (.t 29) (.t 33) (.c (.bool false))⟩,
       ⟨(some 35), none, .take 34⟩,
       ⟨(some 36), (some (35, true)), .mv (.t 2)⟩,
       ⟨(some 37), (some (35, true)), .bin .eql (.t 36) (.c (.int .i64 4))⟩,
       ⟨(some 38), none, .pick (.t 35) (.t 37) (.c (.bool false))⟩,
       ⟨(some 39), none, .take 38⟩,
       ⟨(some 40), (some (39, true)), .mv (.t 3)⟩,
       ⟨(some 41), none, .pick (.t 39) (.t 40) (.c (.bool false))⟩,
       ⟨(some 42), none, .take 41⟩,
       ⟨(some 43), (some (42, true)), .mv (.t 1)⟩,
       ⟨(some 44), (some (42, true)), .call 17 [(.t 43)]⟩,
       ⟨(some 45), (some (42, true)), .bin .eql (.t 44) (.c (.int .i64 30))⟩,
       ⟨(some 46), none, .pick (.t 42) (.t 45) (.c (.bool false))⟩,
       ⟨(some 47), none, .take 46⟩,
       ⟨(some 48), (some (47, true)), .mv (.t 1)⟩,
       ⟨(some 49), (some (47, true)), .iaddr 4 (.t 48) (.c (.int .i64 0))⟩,
       ⟨(some 50), (some (47, true)), .load (some 4) (.t 49)⟩,
       ⟨(some 51), (some (47, true)), .build [(.int .i64 0), (.int .i64 0)] [(0, 1, (.c (.int .i64 3)))]⟩,
       ⟨(some 52), (some (47, true)), .call 16 [(.t 50), (.t 51), (.c (.int .i64 9))]⟩,
       ⟨(some 53), none, .pick (.t 47) (.t 52) (.c (.bool false))⟩,
       ⟨(some 0), none, .take 53⟩])
     .ret))))
def ar13 : List AR := [.t 0]
theorem comp13 : Try.f13.body.bind (comp Try.prog 54) = some ac13 := by kernel_rfl
theorem cres13 : compRes Try.prog Try.f13.results.toList = some ar13 := by kernel_rfl
/-- bilander/bilanderlaw16.as -/
def ac14 : AC :=
 (.seq
  (.reg [⟨(some 2), none, .mv (.c .nils)⟩])
  (.seq
   (.reg [⟨(some 3), none, .mv (.c .nils)⟩])
   (.seq
    (.seq
     (.reg [⟨(some 4), none, .mv (.c (.int .i64 0))⟩])
     (.block 0
      (.loop
       (.seq
        (.seq
         (.reg [⟨(some 5), none, .mv (.t 4)⟩,
           ⟨(some 6), none, .mv (.t 0)⟩,
           ⟨(some 7), none, .len false (.t 6)⟩,
           ⟨(some 8), none, .bin .lss (.t 5) (.t 7)⟩])
         (.cond (.t 8)
          .skip
          (.exit 0)))
        (.seq
         (.block 1
          (.reg [⟨(some 11), none, .take 3⟩,
            ⟨(some 12), none, .mv (.t 0)⟩,
            ⟨(some 13), none, .mv (.t 4)⟩,
            ⟨(some 14), none, .iaddr 4 (.t 12) (.t 13)⟩,
            ⟨(some 15), none, .load (some 4) (.t 14)⟩,
            ⟨(some 16), none, .bsl 4 1 [(.int .i64 0), (.int .i64 0), (.int .i64 0), (.int .i64 0)] [(0, (.t 15))]⟩,
            ⟨(some 17), none, .app 4 32 11 (.t 16)⟩,
            ⟨(some 3), none, .take 17⟩]))
         (.reg [⟨(some 9), none, .take 4⟩,
           ⟨(some 10), none, .bin .add (.t 9) (.c (.int .i64 1))⟩,
           ⟨(some 4), none, .take 10⟩]))))))
    (.seq
     (.reg [⟨(some 18), none, .take 3⟩,
       ⟨(some 2), none, .take 18⟩])
     .ret))))
def ar14 : List AR := [.t 2]
theorem comp14 : Try.f14.body.bind (comp Try.prog 19) = some ac14 := by kernel_rfl
theorem cres14 : compRes Try.prog Try.f14.results.toList = some ar14 := by kernel_rfl
/-- bilander/retain.Drop -/
def ac15 : AC :=
 (.seq
  (.reg [⟨(some 4), none, .box 2 (.t 1)⟩,
    ⟨(some 6), none, .mv (.c (.int .i64 0))⟩])
  (.seq
   (.reg [⟨(some 11), none, .mv (.t 0)⟩,
     ⟨(some 12), none, .call 46 [(.t 11)]⟩,
     ⟨(some 7), none, .take 12⟩])
   (.seq
    (.seq
     (.reg [⟨(some 13), none, .mv (.t 0)⟩,
       ⟨(some 14), none, .len false (.t 13)⟩,
       ⟨(some 15), none, .mv (.c (.int .i64 0))⟩])
     (.block 0
      (.loop
       (.seq
        (.reg [⟨(some 16), none, .bin .lss (.t 15) (.t 14)⟩])
        (.seq
         (.cond (.t 16)
          .skip
          (.exit 0))
         (.seq
          (.block 1
           (.seq
            (.reg [⟨(some 17), none, .take 15⟩,
              ⟨(some 18), none, .iaddr 4 (.t 13) (.t 15)⟩,
              ⟨(some 19), none, .load (some 4) (.t 18)⟩,
              ⟨(some 9), none, .alloc [(.int .i64 0), (.int .i64 0), (.int .i64 0), (.int .i64 0)]⟩,
              ⟨(some 8), none, .take 17⟩,
              ⟨none, none, .store 4 (.t 9) (.t 19)⟩])
            (.seq
             (.dreg [] [⟨(some 20), none, .faddr (.t 4) 1⟩,
               ⟨(some 21), none, .load none (.t 20)⟩,
               ⟨(some 22), none, .bin .geq (.t 21) (.c (.int .i64 0))⟩,
               ⟨(some 23), none, .mv (.t 22)⟩,
               ⟨(some 24), (some (23, true)), .mv (.t 7)⟩,
               ⟨(some 25), (some (23, true)), .mv (.t 8)⟩,
               ⟨(some 26), (some (23, true)), .iaddr 1 (.t 24) (.t 25)⟩,
               ⟨(some 27), (some (23, true)), .load none (.t 26)⟩,
               ⟨(some 28), (some (23, true)), .faddr (.t 4) 1⟩,
               ⟨(some 29), (some (23, true)), .load none (.t 28)⟩,
               ⟨(some 30), (some (23, true)), .bin .gtr (.t 27) (.t 29)⟩,
               ⟨(some 31), none, .pick (.t 23) (.t 30) (.c (.bool false))⟩,
               ⟨(some 10), none, .take 31⟩])
             (.seq
              (.reg [⟨(some 32), none, .mv (.t 8)⟩,
                ⟨(some 33), none, .bin .add (.t 32) (.c (.int .i64 1))⟩,
                ⟨(some 34), none, .mv (.t 0)⟩,
                ⟨(some 35), none, .len false (.t 34)⟩,
                ⟨(some 36), none, .bin .eql (.t 33) (.t 35)⟩,
                ⟨(some 37), none, .take 36⟩,
                ⟨(some 38), (some (37, false)), .load (some 4) (.t 9)⟩,
                ⟨(some 39), (some (37, false)), .load (some 2) (.t 4)⟩,
                ⟨(some 40), (some (37, false)), .mv (.t 2)⟩,
                ⟨(some 41), (some (37, false)), .call 16 [(.t 38), (.t 39), (.t 40)]⟩,
                ⟨(some 42), (some (37, false)), .una .not (.t 41)⟩,
                ⟨(some 43), (some (37, false)), .take 42⟩,
                ⟨(some 44), (some (43, true)), .mv (.t 10)⟩,
                ⟨(some 45), (some (43, true)), .una .not (.t 44)⟩,
                ⟨(some 46), (some (37, false)), .pick (.t 43) (.t 45) (.c (.bool false))⟩,
                ⟨(some 47), none, .pick (.t 37) (.c (.bool true)) (.t 46)⟩])
              (.cond (.t 47)
               (.seq
                (.reg [⟨(some 48), none, .take 8⟩,
                  ⟨(some 6), none, .take 48⟩])
                .ret)
               .skip)))))
          (.reg [⟨(some 49), none, .bin .add (.t 15) (.c (.int .i64 1))⟩,
            ⟨(some 15), none, .take 49⟩])))))))
    (.seq
     (.reg [⟨(some 6), none, .mv (.c (.int .i64 0))⟩])
     .ret))))
def ar15 : List AR := [.t 6]
theorem comp15 : Try.f15.body.bind (comp Try.prog 50) = some ac15 := by kernel_rfl
theorem cres15 : compRes Try.prog Try.f15.results.toList = some ar15 := by kernel_rfl
/-- bilander/retain.Old -/
def ac16 : AC :=
 (.seq
  (.reg [⟨(some 3), none, .box 4 (.t 0)⟩,
    ⟨(some 4), none, .box 2 (.t 1)⟩,
    ⟨(some 6), none, .mv (.c (.bool false))⟩])
  (.seq
   (.reg [⟨(some 7), none, .faddr (.t 4) 0⟩,
     ⟨(some 8), none, .load none (.t 7)⟩,
     ⟨(some 9), none, .bin .geq (.t 8) (.c (.int .i64 0))⟩,
     ⟨(some 10), none, .take 9⟩,
     ⟨(some 11), (some (10, true)), .faddr (.t 3) 2⟩,
     ⟨(some 12), (some (10, true)), .load none (.t 11)⟩,
     ⟨(some 13), (some (10, true)), .bin .geq (.t 12) (.c (.int .i64 0))⟩,
     ⟨(some 14), none, .pick (.t 10) (.t 13) (.c (.bool false))⟩,
     ⟨(some 15), none, .take 14⟩,
     ⟨(some 16), (some (15, true)), .mv (.t 2)⟩,
     ⟨(some 17), (some (15, true)), .bin .geq (.t 16) (.c (.int .i64 0))⟩,
     ⟨(some 18), none, .pick (.t 15) (.t 17) (.c (.bool false))⟩,
     ⟨(some 19), none, .take 18⟩,
     ⟨(some 20), (some (19, true)), .mv (.t 2)⟩,
     ⟨(some 21), (some (19, true)), .faddr (.t 3) 2⟩,
     ⟨(some 22), (some (19, true)), .load none (.t 21)⟩,
     ⟨(some 23), (some (19, true)), .minmax false (.t 22) (.c (.int .i64 1099511627776))⟩,
     ⟨(some 24), (some (19, true)), .bin .sub (.t 20) (.t 23)⟩,
     ⟨(some 25), (some (19, true)), .faddr (.t 4) 0⟩,
     ⟨(some 26), (some (19, true)), .load none (.t 25)⟩,
     ⟨(some 27), (some (19, true)), .bin .gtr (.t 24) (.t 26)⟩,
     ⟨(some 28), none, .pick (.t 19) (.t 27) (.c (.bool false))⟩,
     ⟨(some 6), none, .take 28⟩])
   .ret))
def ar16 : List AR := [.t 6]
theorem comp16 : Try.f16.body.bind (comp Try.prog 29) = some ac16 := by kernel_rfl
theorem cres16 : compRes Try.prog Try.f16.results.toList = some ar16 := by kernel_rfl
/-- bilander/retain.Total -/
def ac17 : AC :=
 (.seq
  (.reg [⟨(some 2), none, .mv (.c (.int .i64 0))⟩])
  (.seq
   (.reg [⟨(some 3), none, .mv (.c (.int .i64 0))⟩])
   (.seq
    (.seq
     (.reg [⟨(some 6), none, .mv (.t 0)⟩,
       ⟨(some 7), none, .len false (.t 6)⟩,
       ⟨(some 8), none, .mv (.c (.int .i64 0))⟩])
     (.block 0
      (.loop
       (.seq
        (.reg [⟨(some 9), none, .bin .lss (.t 8) (.t 7)⟩])
        (.seq
         (.cond (.t 9)
          .skip
          (.exit 0))
         (.seq
          (.block 1
           (.seq
            (.reg [⟨(some 10), none, .iaddr 4 (.t 6) (.t 8)⟩,
              ⟨(some 11), none, .load (some 4) (.t 10)⟩,
              ⟨(some 5), none, .alloc [(.int .i64 0), (.int .i64 0), (.int .i64 0), (.int .i64 0)]⟩,
              ⟨none, none, .store 4 (.t 5) (.t 11)⟩])
            (.reg [⟨(some 12), none, .take 3⟩,
              ⟨(some 13), none, .load (some 4) (.t 5)⟩,
              ⟨(some 14), none, .call 47 [(.t 13)]⟩,
              ⟨(some 15), none, .bin .add (.t 12) (.t 14)⟩,
              ⟨(some 3), none, .take 15⟩])))
          (.reg [⟨(some 16), none, .bin .add (.t 8) (.c (.int .i64 1))⟩,
            ⟨(some 8), none, .take 16⟩])))))))
    (.seq
     (.reg [⟨(some 17), none, .take 3⟩,
       ⟨(some 2), none, .take 17⟩])
     .ret))))
def ar17 : List AR := [.t 2]
theorem comp17 : Try.f17.body.bind (comp Try.prog 18) = some ac17 := by kernel_rfl
theorem cres17 : compRes Try.prog Try.f17.results.toList = some ar17 := by kernel_rfl
/-- bilander/retain.Start -/
def ac45 : AC :=
 (.seq
  (.reg [⟨(some 4), none, .mv (.c (.int .i64 0))⟩,
    ⟨(some 5), none, .mv (.c (.bool false))⟩])
  (.seq
   (.seq
    (.reg [⟨(some 6), none, .mv (.t 1)⟩,
      ⟨(some 7), none, .bin .lss (.t 6) (.c (.int .i64 0))⟩,
      ⟨(some 8), none, .take 7⟩,
      ⟨(some 9), (some (8, false)), .mv (.t 1)⟩,
      ⟨(some 10), (some (8, false)), .mv (.t 0)⟩,
      ⟨(some 11), (some (8, false)), .len false (.t 10)⟩,
      ⟨(some 12), (some (8, false)), .bin .geq (.t 9) (.t 11)⟩,
      ⟨(some 13), none, .pick (.t 8) (.c (.bool true)) (.t 12)⟩])
    (.cond (.t 13)
     (.seq
      (.reg [⟨(some 4), none, .mv (.c (.int .i64 0))⟩,
        ⟨(some 5), none, .mv (.c (.bool false))⟩])
      .ret)
     .skip))
   (.seq
    (.reg [⟨(some 14), none, .mv (.t 0)⟩,
      ⟨(some 15), none, .mv (.t 1)⟩,
      ⟨(some 16), none, .iaddr 4 (.t 14) (.t 15)⟩,
      ⟨(some 17), none, .faddr (.t 16) 0⟩,
      ⟨(some 18), none, .load none (.t 17)⟩,
      ⟨(some 4), none, .take 18⟩,
      ⟨(some 5), none, .mv (.c (.bool true))⟩])
    .ret)))
def ar45 : List AR := [.t 4, .t 5]
theorem comp45 : Try.f45.body.bind (comp Try.prog 19) = some ac45 := by kernel_rfl
theorem cres45 : compRes Try.prog Try.f45.results.toList = some ar45 := by kernel_rfl
/-- bilander/retain.behind -/
def ac46 : AC :=
 (.seq
  (.reg [⟨(some 2), none, .mv (.c .nils)⟩])
  (.seq
   (.reg [⟨(some 7), none, .mv (.t 0)⟩,
     ⟨(some 8), none, .len false (.t 7)⟩,
     ⟨(some 9), none, .mks 1 8 [(.int .i64 0)] (.t 8)⟩,
     ⟨(some 3), none, .alloc [.nils]⟩,
     ⟨none, none, .store 1 (.t 3) (.t 9)⟩])
   (.seq
    (.reg [⟨(some 4), none, .alloc [(.int .i64 0)]⟩,
      ⟨none, none, .store 1 (.t 4) (.c (.int .i64 0))⟩])
    (.seq
     (.seq
      (.reg [⟨(some 10), none, .mv (.t 0)⟩,
        ⟨(some 11), none, .call 64 [(.t 10)]⟩])
      (.block 0
       (.rfunc (.t 11) [12, 13]
        (.seq
         (.reg [⟨(some 5), none, .take 12⟩])
         (.reg [⟨(some 6), none, .alloc [(.int .i64 0), (.int .i64 0), (.int .i64 0), (.int .i64 0)]⟩,
           ⟨none, none, .store 4 (.t 6) (.t 13)⟩]))
        (.block 1
         (.seq
          (.dreg [] [⟨(some 14), none, .load none (.t 4)⟩,
            ⟨(some 15), none, .load (some 4) (.t 6)⟩,
            ⟨(some 16), none, .call 47 [(.t 15)]⟩,
            ⟨(some 17), none, .bin .add (.t 14) (.t 16)⟩,
            ⟨none, none, .store 1 (.t 4) (.t 17)⟩])
          (.reg [⟨(some 18), none, .load none (.t 3)⟩,
            ⟨(some 19), none, .mv (.t 5)⟩,
            ⟨(some 20), none, .load none (.t 4)⟩,
            ⟨(some 21), none, .iaddr 1 (.t 18) (.t 19)⟩,
            ⟨none, none, .store 1 (.t 21) (.t 20)⟩]))))))
     (.seq
      (.reg [⟨(some 22), none, .load none (.t 3)⟩,
        ⟨(some 2), none, .take 22⟩])
      .ret)))))
def ar46 : List AR := [.t 2]
theorem comp46 : Try.f46.body.bind (comp Try.prog 23) = some ac46 := by kernel_rfl
theorem cres46 : compRes Try.prog Try.f46.results.toList = some ar46 := by kernel_rfl
/-- bilander/retain.blocks -/
def ac47 : AC :=
 (.seq
  (.reg [⟨(some 1), none, .box 4 (.t 0)⟩,
    ⟨(some 2), none, .mv (.c (.int .i64 0))⟩])
  (.seq
   (.reg [⟨(some 3), none, .faddr (.t 1) 3⟩,
     ⟨(some 4), none, .load none (.t 3)⟩,
     ⟨(some 5), none, .minmax false (.t 4) (.c (.int .i64 1099511627776))⟩,
     ⟨(some 6), none, .minmax true (.c (.int .i64 0)) (.t 5)⟩,
     ⟨(some 2), none, .take 6⟩])
   .ret))
def ar47 : List AR := [.t 2]
theorem comp47 : Try.f47.body.bind (comp Try.prog 7) = some ac47 := by kernel_rfl
theorem cres47 : compRes Try.prog Try.f47.results.toList = some ar47 := by kernel_rfl
/-- slices.Backward[[]bilander/retain.Seg,bilander/retain.Seg] -/
def ac64 : AC :=
 (.seq
  (.reg [⟨(some 1), none, .box 1 (.t 0)⟩,
    ⟨(some 2), none, .mv (.c .nilf)⟩])
  (.seq
   (.seq
    (.frz [1])
    (.reg [⟨(some 3), none, .mkfn 73 [] [(.t 1)]⟩,
      ⟨(some 2), none, .take 3⟩]))
   .ret))
def ar64 : List AR := [.t 2]
theorem comp64 : Try.f64.body.bind (comp Try.prog 4) = some ac64 := by kernel_rfl
theorem cres64 : compRes Try.prog Try.f64.results.toList = some ar64 := by kernel_rfl
end Go.Proofs.Ytomlhaekhammkaa
